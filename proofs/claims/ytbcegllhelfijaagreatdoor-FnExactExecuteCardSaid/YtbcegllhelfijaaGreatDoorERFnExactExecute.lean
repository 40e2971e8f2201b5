/-
  A part of the proof.
-/
import Derived.Test.YtbcegllhelfijaaGreatDoorY30
import Derived.Test.YtbcegllhelfijaaGreatDoorELFnExactExecute
set_option linter.all false
set_option maxRecDepth 100000
set_option maxHeartbeats 8000000
namespace Go.Proofs.YtbcegllhelfijaaGreatDoor
open Go.Proofs.Mn
open Go Go.Conc Go.RowKit
open Go.Proofs.T (execT strB complete)
theorem j8a {av:Value}{p:Addr}{W:World}(T:ByteArray)(hs:Mn.Start av p W)(Post:Value->World->Prop)(hPost:∀w,KeptW W w->Post (.bool true) w) :
  GoodRun W (G (Frame.enter Tryz.prog 6 #[.string T] .normal) []) Post:=by
 by_cases hn:(T.size:Int)>1048576
 ·exact(j6o T hn).run (Reaches.start hs _) hPost
 ·obtain⟨law1,T1,R1⟩:=j6m T hn;obtain⟨law2,T2,E⟩:=R1 ⟨(execT T.data.toList).toArray⟩;have Y1:=(Reaches.start hs _).spec hs T1 (V:=⟨_⟩) rfl;have Y2:=Y1.impl hs T2 (V:=⟨_⟩) rfl;exact E.run Y2 hPost
end Go.Proofs.YtbcegllhelfijaaGreatDoor
