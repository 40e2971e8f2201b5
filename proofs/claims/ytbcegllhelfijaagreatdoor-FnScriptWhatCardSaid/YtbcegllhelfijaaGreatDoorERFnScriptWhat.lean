/-
  A part of the proof.
-/
import Derived.Test.YtbcegllhelfijaaGreatDoorELFnScriptWhat
set_option linter.all false
set_option maxRecDepth 100000
set_option maxHeartbeats 8000000
namespace Go.Proofs.YtbcegllhelfijaaGreatDoor
open Go.Proofs.Mn
open Go Go.Conc Go.RowKit
open Go.Proofs.T (execT strB complete BytesAt)
theorem jzg {Y E:ByteArray}{l m:List UInt8}{k:Nat}(hY:Y.data.toList=l)(hE:E=⟨m.toArray⟩):(l.take k++(Go.Proofs.T.WHAT++m)).toArray=(Y.extract 0 k++WHB++E).data:=by
 subst hE hY;apply Array.ext';simp[WHB,Go.Proofs.T.WHAT]
theorem jz0 {av:Value}{p:Addr}{W:World}(a:Option Addr)(n cap:Nat)(hs:Mn.Start av p W)(hc:n<=cap)(hm:cap<=maxLen)(hb:BytesAt W a n)(Post:Value->World->Prop)(hPost:∀w,KeptW W w->Post (.bool true) w) :
  GoodRun W (G (Frame.enter Tryz.prog 5 #[.slice a n cap] .normal) []) Post:=by
 by_cases hn:(n:Int)>1048576
 ·exact(jyz a n cap hn).run (Reaches.start hs _) hPost
 ·obtain⟨law1,T1,R1⟩:=jyy a n cap hn;obtain⟨T,hT,Y1⟩:=j2j hs T1 hc hm hb;have hl:T.data.toList.length=T.size:=by rw[Array.length_toList];rfl
  obtain⟨law2,T2,R2⟩:=R1 T hT;obtain⟨law3,T3,R3⟩:=R2 ⟨(execT T.data.toList).toArray⟩;have Y2:=Y1.impl hs T2 (V:=⟨_⟩) rfl;have Y3:=Y2.spec hs T3 (V:=⟨_⟩) rfl;obtain⟨h1,h2⟩:=R3;by_cases hL:(T.size:Int)+4>400
  ·exact(h1 hL).run Y3 hPost
  ·obtain⟨law4,T4,R4⟩:=h2 hL;have Y4:=Y3.lines hs T4 hT;have hcl:=Go.Proofs.T.j4i T.data.toList;obtain⟨X,hX⟩:∃X:ByteArray,X=⟨(complete T.data.toList).toArray⟩:=⟨_,rfl⟩;have hXs:X.size<=10000:=by rw[hX];simp only[ByteArray.size,List.size_toArray];omega
   obtain⟨law5,T5,R5⟩:=R4 X hXs;obtain⟨Y,hY⟩:∃Y:ByteArray,Y=⟨(execT (complete T.data.toList)).toArray⟩:=⟨_,rfl⟩;have hYs:Y.size<=9000000:=by
    have:=jt2 (complete T.data.toList);rw[hY];simp only[ByteArray.size,List.size_toArray];omega
   rw[<- hX]at Y4;have Y5:=Y4.impl hs T5 (V:=Y) (by rw[hX,hY]);obtain⟨law6,T6,R6⟩:=R5 Y hYs;have Y6:=Y5.last hs T6 (by omega);obtain⟨E,hE⟩:∃E:ByteArray,E=⟨(Go.Proofs.T.lastL Y.data.toList).toArray⟩:=⟨_,rfl⟩;have hYl:Y.data.toList=execT (complete T.data.toList):=by rw[hY]
   have hEs:E.size=(Go.Proofs.T.lastL (execT (complete T.data.toList))).length:=by rw[hE,hYl];simp only[ByteArray.size,List.size_toArray]
   have hYz:Y.size=(execT (complete T.data.toList)).length:=by rw[hY];simp only[ByteArray.size,List.size_toArray]
   have hEY:E.size<=Y.size:=by
    rw[hEs,hYz];unfold Go.Proofs.T.lastL;rw[List.length_drop];omega
   rw[<- hE]at Y6;obtain⟨Ok,T7,R7⟩:=R6 E hEY;have hw:=Go.Proofs.T.jzr (t:=T.data.toList) (by omega);obtain⟨law,hok,Y7⟩:=Y6.implAny hs T7 (V:=Y.extract 0 (Y.size-E.size)++WHB++E) (by
    have e1:(X++ZZB).data.toList=complete T.data.toList++Go.Proofs.T.ZZZ:=by rw[hX];simp[ZZB,ByteArray.mk_append_mk,Go.Proofs.T.ZZZ]
    rw[e1,hw,<- hEs,<- hYz];exact jzg hYl (by rw[hE,hYl]))
   exact(R7 law hok).run Y7 hPost
end Go.Proofs.YtbcegllhelfijaaGreatDoor
