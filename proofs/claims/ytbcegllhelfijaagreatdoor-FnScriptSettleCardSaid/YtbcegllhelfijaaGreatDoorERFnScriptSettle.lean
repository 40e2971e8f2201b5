/-
  A part of the proof.
-/
import Derived.Test.YtbcegllhelfijaaGreatDoorY30
import Derived.Test.YtbcegllhelfijaaGreatDoorELFnScriptSettle
set_option linter.all false
set_option maxRecDepth 100000
set_option maxHeartbeats 8000000
namespace Go.Proofs.YtbcegllhelfijaaGreatDoor
open Go.Proofs.Mn
open Go Go.Conc Go.RowKit
open Go.Proofs.T (execT strB complete BytesAt)
theorem jr4 (x:List UInt8):(⟨(x++Go.Proofs.T.QUIET).toArray⟩:ByteArray).extract ((⟨(x++Go.Proofs.T.QUIET).toArray⟩:ByteArray).size-6) (⟨(x++Go.Proofs.T.QUIET).toArray⟩:ByteArray).size=⟨#[113,117,105,101,116,10]⟩:=by
 have hq:Go.Proofs.T.QUIET.length=6:=rfl;apply ByteArray.ext;simp only[ByteArray.size,List.size_toArray,List.length_append,hq,Nat.add_sub_cancel,ByteArray.data_extract];simp;rfl
theorem j8b {av:Value}{p:Addr}{W:World}(a:Option Addr)(n cap:Nat)(hs:Mn.Start av p W)(hc:n<=cap)(hm:cap<=maxLen)(hb:BytesAt W a n)(Post:Value->World->Prop)(hPost:∀w,KeptW W w->Post (.bool true) w) :
  GoodRun W (G (Frame.enter Tryz.prog 4 #[.slice a n cap] .normal) []) Post:=by
 by_cases hn:(n:Int)>1048576
 ·exact(j6p a n cap hn).run (Reaches.start hs _) hPost
 ·obtain⟨law1,T1,R1⟩:=j6n a n cap hn;obtain⟨T,hT,Y1⟩:=j2j hs T1 hc hm hb;have hl:T.data.toList.length=T.size:=by rw[Array.length_toList];rfl
  obtain⟨law2,T2,R2⟩:=R1 T hT;obtain⟨law3,T3,R3⟩:=R2 ⟨(execT T.data.toList).toArray⟩;have Y2:=Y1.impl hs T2 (V:=⟨_⟩) rfl;have Y3:=Y2.spec hs T3 (V:=⟨_⟩) rfl;obtain⟨h1,h2⟩:=R3;by_cases hL:(T.size:Int)+7>400
  ·exact(h1 hL).run Y3 hPost
  ·obtain⟨law4,T4,R4⟩:=h2 hL;have Y4:=Y3.lines hs T4 hT;have hcl:=Go.Proofs.T.j4i T.data.toList;obtain⟨law5,T5,R5⟩:=R4 ⟨(complete T.data.toList).toArray⟩ (by simp only[ByteArray.size,List.size_toArray];omega);have Y5:=Y4.impl hs T5 (V:=⟨(execT (complete T.data.toList++Go.Proofs.T.SETTLE)).toArray⟩) (by simp[ByteArray.mk_append_mk,Go.Proofs.T.SETTLE]);obtain⟨x,hx⟩:=Go.Proofs.T.jk8 (t:=T.data.toList) (by omega);have hlen:=jt2 (complete T.data.toList++Go.Proofs.T.SETTLE);rw[hx]at Y5 hlen;have hq:Go.Proofs.T.QUIET.length=6:=rfl;rw[List.length_append,hq]at hlen;have E:=R5 ⟨(x++Go.Proofs.T.QUIET).toArray⟩ (by simp only[ByteArray.size,List.size_toArray,List.length_append,hq];omega) (by simp only[ByteArray.size,List.size_toArray,List.length_append,hq];omega) (jr4 x);exact E.run Y5 hPost
end Go.Proofs.YtbcegllhelfijaaGreatDoor
