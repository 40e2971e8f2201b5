/-
  A part of the proof.
-/
import Derived.Test.YtbcegllhelfijaaGreatDoorY26
set_option linter.all false
set_option maxRecDepth 100000
set_option maxHeartbeats 8000000
namespace Go.Proofs.T
open Lib (hid)
open Go.RowKit
theorem jml {L:List UInt8}{f k:Nat}{c:UInt8}(hfk:f<=k)(hk:k<L.length)(hc:L[k]=c)(hno:∀c∈(L.take k).drop f,c≠10) :
  if c=10 then cutB 10 (L.drop f)=(L.take k).drop f::cutB 10 (L.drop (k+1))else∀c∈(L.take (k+1)).drop f,c≠10:=by
 split
 ·rename_i h
  have e:L.drop f=(L.take k).drop f++10::L.drop (k+1):=by
   rw[<- h,<- hc,<- List.drop_eq_getElem_cons hk]
   conv=>lhs;rw[<- List.take_append_drop k L]
   rw[List.drop_append,List.length_take,show f-min k L.length=0 by omega];rfl
  rw[e,j7q hno]
 ·rename_i h
  rw[List.take_succ_eq_append_getElem hk,hc,List.drop_append];intro x hx;rcases List.mem_append.1 hx with hx|hx
  ·exact hno x hx
  ·have:=List.mem_of_mem_drop hx;rw[List.mem_singleton]at this;rw[this];exact h
theorem jmk {L:List UInt8}{f:Nat}(hno:∀c∈(L.take L.length).drop f,c≠10):cutB 10 (L.drop f)=[L.drop f]:=by
 rw[List.take_length]at hno;exact j4x hno
theorem jnk {L:List UInt8}{f:Nat}{ls:List (List UInt8)}(h:cutB 10 L=ls++cutB 10 (L.drop f))(hno:∀c∈(L.take L.length).drop f,c≠10):linesOf L=ls:=by
 unfold linesOf;rw[h,jmk hno,List.dropLast_concat]
theorem jq6 (view:Int)(a:Option Addr)(cap:Nat)(ns:List Nd)(B:ByteArray)(w:World)(hv:chainOk view ns=true)(hc:ns.length<=cap)(hx:NodesAt w a ns)(hl:B.size<=400) :
  Calls tnp 28 #[.agg #[.int .i64 view,.slice a ns.length cap],.string B] w (LineE w a ns (lineK (view,keys ns) B.data.toList)):=by
 have h:=jfg view a cap ns B.data.toList w hv hc hx (by simpa using hl);have e:(⟨B.data.toList.toArray⟩:ByteArray)=B:=by cases B;simp
 rwa[e]at h
theorem j9m (S:ByteArray)(w:World) :
  Calls tnp 14 #[.string S] w λe w'=>e=.returned (strB (execT S.data.toList))/\Below w.heap.size w w':=by
 by_cases hlen:400<S.size
 ·have F:Hid (execT S.data.toList=LONG):=hid (by unfold execT;rw[if_pos (by simpa using hlen)]);have t1:(S.size:Int)>400:=by omega
  clear hlen;go_enter Twn.func14,Tryz.ntmps14
  go_wp2_with fail
  go_ret
  exact⟨by rw[F.out];rfl,Below.refl _ _⟩
 ·have F:Hid (execT S.data.toList=(runL (linesOf S.data.toList)).2++endT (runL (linesOf S.data.toList)).1):=hid (by unfold execT;rw[if_neg (by simpa using hlen)]);have t1:¬((S.size:Int)>400):=by omega
  have hS:S.size<=400:=by omega
  have s0:=(St.start w).alloc (.cells #[.int .i64 1,.int .i64 2,.int .i64 3] 3);have I0:IntsAt (w.alloc (.cells #[.int .i64 1,.int .i64 2,.int .i64 3] 3)) (some ⟨w.heap.size,0,none⟩) [1,2,3]:=.inr ⟨w.heap.size,0,rfl,λj hj=>by
   rw[s0.cells.1];simp only[List.length_cons,List.length_nil]at hj;rcases(by omega:j=0\/j=1\/j=2)with rfl|rfl|rfl<;>rfl⟩
  have CN:=j8g (some ⟨w.heap.size,0,none⟩) 3 _ I0;clear hlen I0;go_enter Twn.func14,Tryz.ntmps14
  go_wp2_with fail
  refine CN.mono ?_;rintro e w1 ⟨a,cap,ms,rfl,hk,ss⟩;have s1:=s0.join ss;have HK:=hid hk;have NO0:=hid (λw0 w2 Y (h:St w0 w2 ((row (.slice a ms.length cap) 60 3 ms.length (ncells ms)::nds ms)++Y))=>jfp (St.take _ Y rfl h));have hcm0:=j66 ss.own;generalize hX:row (.slice a ms.length cap) 60 3 ms.length (ncells ms)::nds ms=X0 at *;have s2:=(s1.alloc (.cells #[.int .i64 0,.slice a ms.length cap] 34));have S2:=hid s2;clear CN s0 ss hk hX s1 s2;generalize hC3:w1.heap.size=C3 at *;go_wp2_with fail
  go_loopw [5,6,7] (λo f i wr=>∃(k fr:Nat) (ls:List (List UInt8)) (a:Option Addr) (cap:Nat) (ms:List Nd) (X:List Res),k<=S.size/\i=.int .i64 k/\f=.int .i64 fr/\fr<=k/\o=.string ⟨(runL ls).2.toArray⟩/\(runL ls).2.length<=20000*k/\cutB 10 S.data.toList=ls++cutB 10 (S.data.toList.drop fr)/\(∀c∈(S.data.toList.take k).drop fr,c≠10)/\keys ms=(runL ls).1.2/\ms.length<=cap/\(∀w0 w2 Y,St w0 w2 (X++Y)->NodesAt w2 a ms)/\St w wr (box C3 #[.int .i64 (runL ls).1.1,.slice a ms.length cap] 34::X)) (λ_ _ i _=>S.size-(intOf i).toNat)
  case atStart=>
   exact⟨0,0,[],a,cap,ms,X0++[box w.heap.size #[.int .i64 1,.int .i64 2,.int .i64 3] 3],Nat.zero_le _,rfl,rfl,Nat.le_refl _,rfl,by simp[runL],rfl,by simp,HK.out,hcm0,λw0 w2 Y h=>NO0.out w0 w2 _ (by rw[List.append_assoc]at h;exact h),S2.out⟩
  case round=>
   clear S2 NO0 HK hcm0;obtain⟨k,f,ls,a,cap,ms,X,hk,rfl,rfl,hfk,rfl,hol,hcut,hno,hkey,hcm,hnod,s1⟩:=hrel;by_cases hlt:k<S.size
   ·obtain⟨c8,hc8⟩:∃c,S[k]=c:=⟨_,rfl⟩;have CS:=hid (jml hfk (by simpa using hlt) hc8 hno);have HC:=hid hcut;have HCM:=hid hcm;have HKEY:=hid hkey;have HNO:=hid hnod;have HOL:=hid hol;have VK:=hid (j9e ls);obtain⟨c,hc⟩:∃c:Nat,S[k].toNat=c:=⟨_,rfl⟩;have HC8:=hid hc8;have HCN:=hid hc;have i1:(k:Int)<(S.size:Int):=by omega
    clear hcut hno hc8 hcm hkey hnod hol;by_cases g1:c=10
    ·have h44:c8=10:=by
      rw[<- HC8.out];exact UInt8.toNat_inj.1 (by rw[HCN.out,g1];rfl)
     have FC:=hid (by have:=CS.out;rw[if_pos h44]at this;exact this);subst g1;have i2:(f:Int)<=(k:Int):=by omega
     have LN:=hid (λW (h:NodesAt W a ms)=>jq6 (runL ls).1.1 a cap ms (S.extract f k) W (by rw[jt,HKEY.out];exact j1p.2 VK.out) HCM.out h (by simp[ByteArray.size_extract];omega));rw[HKEY.out,j6z]at LN;change Hid (∀W,NodesAt W a ms->Calls tnp 28 #[.agg #[.int .i64 (runL ls).1.1,.slice a ms.length cap],.string (S.extract f k)] W (LineE W a ms (lineK (runL ls).1 ((S.data.toList.take k).drop f))))at LN;have SN:Hid (runL (ls++[(S.data.toList.take k).drop f])=runF (runL ls) ((S.data.toList.take k).drop f)):=hid (j89 _ _);have LL:=hid (jc3 VK.out ((S.data.toList.take k).drop f));obtain⟨r,hr⟩:∃r,lineK (runL ls).1 ((S.data.toList.take k).drop f)=r:=⟨_,rfl⟩;rw[hr]at LN LL;have SN2:Hid (runL (ls++[(S.data.toList.take k).drop f])=(r.1,(runL ls).2++r.2)):=hid (by rw[SN.out,<- hr];rfl);clear SN hr CS h44;generalize hst:runL ls=st at *;obtain⟨mm,out⟩:=st;simp only at LN SN2 HOL VK s1 HKEY;obtain⟨cc,hcc⟩:∃z,out++r.2=z:=⟨_,rfl⟩;have ct:=λW=>j31 (P:=tnp) out r.2 (by have:=HOL.out;have:=LL.out;omega) W;rw[hcc]at ct SN2;have LC:Hid (cc.length<=20000*(k+1)):=hid (by rw[<- hcc,List.length_append];have:=HOL.out;have:=LL.out;omega);clear hcc LL;have HST:=hid hst;clear hst
     go_upto_region 10 with fail
     go_cut [8,9] (λs8 s9 wx=>∃(H:Nat) (a':Option Addr) (cap':Nat) (ms':List Nd) (X':List Res),s8=.pointer (some ⟨H,0,none⟩)/\s9=.string ⟨r.2.toArray⟩/\keys ms'=r.1.2/\ms'.length<=cap'/\((a'=a/\ms'=ms)\/∀w0 w2 Y,St w0 w2 (X'++Y)->NodesAt w2 a' ms')/\St w wx (box H #[.int .i64 r.1.1,.slice a' ms'.length cap'] 34::(X'++(box C3 #[.int .i64 mm.1,.slice a ms.length cap] 34::X))))
     case first=>
      obtain⟨SS,hS⟩:=Mix.named (λw'=>w'.cell? ⟨C3,0,none⟩=some (.int .i64 mm.1)/\w'.cell? ⟨C3,1,none⟩=some (.slice a ms.length cap));have HS:=hid hS;have e0:=Mix.held_cell (λw h=>((hS w).1 h).1);have e1:=Mix.held_cell (λw h=>((hS w).1 h).2);clear hS;have SO:=hid (λW rr (hr:box C3 #[.int .i64 mm.1,.slice a ms.length cap] 34∈rr) (s:St w W rr)=>by
       have a0:=cell_of_heap (o:=0) (s.pull hr).boxAt;have a1:=cell_of_heap (o:=1) (s.pull hr).boxAt;simp at a0 a1;exact(HS.out W).2 ⟨a0,a1⟩)
      have s2:=s1.drew;clear s1;refine Mix.start SS 11 (by kernel_rfl) ?_;generalize wr.drew=w2 at *;refine Mix.take [0,1,2,3,4] 7 (by kernel_rfl) (by kernel_rfl) (by kernel_rfl) (by intro c a a' w e h;exact⟨e.symm.trans h.1,h.2⟩) (SO.out _ _ (by simp) s2) ?_;intro hne;simp only[Mix.pickOps,List.filterMap_cons,List.filterMap_nil,List.getElem?_toArray,List.getElem?_cons_zero,List.getElem?_cons_succ];repeat (refine Mix.cons_form ?_;go_big_quiet_step (fail))
      refine wpQuiet_nil ?_;clear hne;refine Mix.fork (i:=5) (j:=9) (by kernel_rfl) rfl rfl rfl rfl ?_ ?_
      ·go_simp;refine(LN.out _ (HNO.out _ _ [] (by rw[List.append_nil];exact s2.drop))).mono ?_;intro e w3 hg;obtain⟨a',cap',ms',X',rfl,hk',hcm',ss,hor⟩:=hg;have s3:=s2.join ss;have K1:=hid (And.intro hk' (And.intro hcm' hor));unfold strB;refine And.intro (SO.out _ _ (by simp) s3) ?_;clear hk' hcm' hor ss;go_simp;refine Mix.take [6,7,8] 3 (by kernel_rfl) (by kernel_rfl) (by kernel_rfl) (by intro c a a' w e h;exact⟨e.symm.trans h.1,h.2⟩) (SO.out _ _ (by simp) s3) ?_;intro hne;simp only[Mix.pickOps,List.filterMap_cons,List.filterMap_nil,List.getElem?_toArray,List.getElem?_cons_zero,List.getElem?_cons_succ];repeat (refine Mix.cons_form ?_;go_big_quiet_step (fail))
       refine wpQuiet_nil ?_;clear hne;refine Mix.step (i:=9) (by kernel_rfl) rfl rfl ?_;have s4:=s3.alloc (.cells #[.int .i64 0,.slice none 0 0] 34);go_simp;refine And.intro (SO.out _ _ (by simp) s4) ?_;refine Mix.step (i:=10) (by kernel_rfl) rfl rfl ?_;have FIN:=hid (s3.alloc (.cells #[.int .i64 r.1.1,.slice a' ms'.length cap'] 34));have SO2:=hid (SO.out _ _ (by simp) FIN.out);go_simp;refine And.intro SO2.out ?_;clear s2 s3 s4;refine Mix.step (i:=11) (by kernel_rfl) rfl rfl ?_;go_simp;refine Mix.done (by kernel_rfl) ?_;go_wp2_with fail
       go_meet
       exact⟨_,a',cap',ms',X',rfl,rfl,K1.out.1,K1.out.2.1,K1.out.2.2,FIN.out⟩
      ·have s3:=s2.alloc (.cells #[.int .i64 0,.slice none 0 0] 34);go_simp;refine And.intro (SO.out _ _ (by simp) s3) ?_;refine Mix.step (i:=5) (by kernel_rfl) rfl rfl ?_;go_simp;refine(LN.out _ (HNO.out _ _ [] (by rw[List.append_nil];exact s3.drop.drop))).mono ?_;intro e w3 hg;obtain⟨a',cap',ms',X',rfl,hk',hcm',ss,hor⟩:=hg;have s4:=(s3.join ss).perm List.perm_middle;have K1:=hid (And.intro hk' (And.intro hcm' hor));unfold strB;refine And.intro (SO.out _ _ (by simp) s4) ?_;clear hk' hcm' hor ss;go_simp;refine Mix.take [6,7,8] 2 (by kernel_rfl) (by kernel_rfl) (by kernel_rfl) (by intro c a a' w e h;exact⟨e.symm.trans h.1,h.2⟩) (SO.out _ _ (by simp) s4) ?_;intro hne;simp only[Mix.pickOps,List.filterMap_cons,List.filterMap_nil,List.getElem?_toArray,List.getElem?_cons_zero,List.getElem?_cons_succ];repeat (refine Mix.cons_form ?_;go_big_quiet_step (fail))
       refine wpQuiet_nil ?_;clear hne;refine Mix.step (i:=10) (by kernel_rfl) rfl rfl ?_;obtain⟨c4,f4⟩:=s4.cells;have s5:=(s4.set 0 (.int .i64 r.1.1)).set 1 (.slice a' ms'.length cap');have FIN:=hid s5;have SO2:=hid (SO.out _ _ (by simp) s5);go_simp;refine And.intro SO2.out ?_;clear s2 s3 s4 s5 c4 f4;refine Mix.step (i:=11) (by kernel_rfl) rfl rfl ?_;go_simp;refine Mix.done (by kernel_rfl) ?_;go_wp2_with fail
       go_meet
       exact⟨_,a',cap',ms',X',rfl,rfl,K1.out.1,K1.out.2.1,K1.out.2.2,FIN.out⟩
     case rest=>
      clear s1;obtain⟨H,a',cap',ms',X',rfl,rfl,hk',hcm',hor,s1⟩:=hcut;obtain⟨cH,_⟩:=s1.cells;have s2:=s1.perm (List.perm_middle (l₁:=box H #[.int .i64 r.1.1,.slice a' ms'.length cap'] 34::X'));obtain⟨cC,fC⟩:=s2.cells;have s3:=(s2.set 0 (.int .i64 r.1.1)).set 1 (.slice a' ms'.length cap');have FIN:=hid s3.at1.drop;have K1:=hid (And.intro hk' (And.intro hcm' hor));clear hk' hcm' hor s1 s2 s3;go_wp2_with fail
      go_roundw
      case rel=>exact⟨k+1,k+1,ls++[(S.data.toList.take k).drop f],a',cap',ms',X'++X,hlt,by go_num,by go_num,by omega,by rw[SN2.out],by rw[SN2.out];exact LC.out,by rw[HC.out,FC.out];simp,λc hc=>(by rw[List.drop_of_length_le (by simp;omega)]at hc;cases hc),by rw[SN2.out];exact K1.out.1,K1.out.2.1,λw0 w2 Y h=>(by
       rw[List.append_assoc]at h;rcases K1.out.2.2 with⟨e1,e2⟩|h2
       ·rw[e1,e2];exact HNO.out w0 w2 Y h.tail
       ·exact h2 w0 w2 _ h),by rw[SN2.out];exact FIN.out⟩
      case measure=>simp[intOf];omega
    ·have h44:c8≠10:=λe=>g1 (by rw[<- HCN.out,HC8.out,e];rfl);have FC:=hid (by have:=CS.out;rw[if_neg h44]at this;exact this);have t1:((c:Int)==10)=false:=by simp;omega
     have FIN:=hid s1;clear g1 CS h44 s1;go_wp2_with fail
     go_roundw
     case rel=>exact⟨k+1,f,ls,a,cap,ms,X,hlt,by go_num,rfl,by omega,rfl,by have:=HOL.out;omega,HC.out,FC.out,HKEY.out,HCM.out,HNO.out,FIN.out⟩
     case measure=>simp[intOf];omega
   ·obtain rfl:k=S.size:=by omega
    have LD:=jnk hcut (by simpa using hno);rw[LD]at F;have VK:=j9e ls;have hcv:chainOk (runL ls).1.1 ms=true:=by rw[jt,hkey];exact j1p.2 VK
    have CQ:=j6q (runL ls).1.1 a cap ms wr hcv hcm (hnod _ _ [] (by rw[List.append_nil];exact s1.drop));rw[hkey]at CQ;generalize hst:runL ls=st at *;obtain⟨mm,out⟩:=st;simp only at CQ F hol s1;obtain⟨b,hb⟩:∃b,quietK mm.2=b:=⟨_,rfl⟩;rw[hb]at CQ;obtain⟨cc,hcc⟩:∃z,out++endT mm=z:=⟨_,rfl⟩;have EX:Hid (execT S.data.toList=cc):=hid (by rw[F.out,<- hcc]);have HCC:=hid hcc;have HB:=hid hb;have HOL:=hid hol;obtain⟨c1,_⟩:=s1.cells;clear hcut hno hkey hcm hnod LD VK hcv hst hb hcc F hol;go_wp2_with fail
    refine CQ.mono ?_;rintro e w3 ⟨rfl,hbl⟩;have FIN:=hid (s1.call hbl).below;clear CQ hbl c1 s1;cases b with
    | true=>
     have e1:out++[113,117,105,101,116,10]=cc:=by rw[<- HCC.out];unfold endT;rw[if_pos HB.out];rfl
     have ct:=λW=>j31 (P:=tnp) out [113,117,105,101,116,10] (by have:=HOL.out;simp;omega) W;rw[e1]at ct;clear e1;go_wp2_with fail
     go_ret
     exact⟨by rw[EX.out];rfl,FIN.out⟩
    | false=>
     have e1:out++[98,117,115,121,10]=cc:=by rw[<- HCC.out];unfold endT;rw[if_neg (by rw[HB.out];simp)];rfl
     have ct:=λW=>j31 (P:=tnp) out [98,117,115,121,10] (by have:=HOL.out;simp;omega) W;rw[e1]at ct;clear e1;go_wp2_with fail
     go_ret
     exact⟨by rw[EX.out];rfl,FIN.out⟩
theorem jgl {t:List UInt8}(h:∀j,j<t.length->t[j]?≠some 10):complete t=[]:=by
 refine j3v λhm=>?_;obtain⟨j,hj,e⟩:=List.getElem_of_mem hm;exact h j hj (by rw[List.getElem?_eq_getElem hj,e])
theorem jrj (B:ByteArray):strB B.data.toList=.string B:=by cases B;simp[strB]
theorem j6x (S:ByteArray)(w:World)(hS:S.size<=140737488355328) :
  Calls tnp 15 #[.string S] w λe w'=>e=.returned (strB (complete S.data.toList))/\w=w':=by
 have hlen:S.data.toList.length=S.size:=by simp
 go_enter Twn.func15,Tryz.ntmps15
 go_wp2_with fail
 go_loopw [3] (λi wr=>∃k:Nat,k<=S.size/\i=.int .i64 k/\(∀j,k<=j->j<S.size->S.data.toList[j]?≠some 10)/\wr=w) (λi _=>(intOf i).toNat)
 case atStart=>exact⟨S.size,Nat.le_refl _,rfl,λj h h2=>absurd h (by omega),rfl⟩
 case round=>
  obtain⟨k,hk,rfl,hno,hw⟩:=hrel;subst hw;have HN:=hid hno;have HLEN:=hid hlen;clear hno hlen;by_cases hk0:k=0
  ·subst hk0;have F:Hid (complete S.data.toList=[]):=hid (jgl λj hj=>HN.out j (Nat.zero_le _) (by rw[HLEN.out]at hj;exact hj));go_wp2_with fail
   go_ret
   exact⟨by rw[F.out];rfl,rfl⟩
  ·obtain⟨q,rfl⟩:∃q,k=q+1:=⟨k-1,by omega⟩;have hq:q<S.size:=by omega
   obtain⟨c8,hc8⟩:∃c,S[q]=c:=⟨_,rfl⟩;have HC8:=hid hc8;obtain⟨c,hc⟩:∃c:Nat,S[q].toNat=c:=⟨_,rfl⟩;have HCN:=hid hc;have hq2:q<S.data.toList.length:=by rw[HLEN.out];exact hq
   have HG:Hid (S.data.toList[q]?=some c8):=hid (by rw[List.getElem?_eq_getElem hq2,<- HC8.out];simp;rfl);have e1:(((q+1:Nat):Int)-1)=(q:Int):=by omega
   have i1:(q:Int)<(S.size:Int):=by omega
   have i2:((q+1:Nat):Int)>0:=by omega
   clear hc8 hq2;by_cases g1:c=10
   ·have h44:c8=10:=by
     rw[<- HC8.out];exact UInt8.toNat_inj.1 (by rw[HCN.out,g1];rfl)
    have F:Hid (complete S.data.toList=(S.extract 0 (q+1)).data.toList):=hid (by
     rw[j7o S.data.toList (q+1) (by omega) (by rw[HLEN.out];omega) (by rw[Nat.add_sub_cancel,HG.out,h44]) (λj h h2=>HN.out j h (by rw[HLEN.out]at h2;exact h2)),j6z];rfl)
    subst g1;clear h44;go_wp2_with fail
    go_ret
    exact⟨by rw[F.out,jrj];rfl,rfl⟩
   ·have h44:c8≠10:=λe=>g1 (by rw[<- HCN.out,HC8.out,e];rfl);have F:Hid (∀j,q<=j->j<S.size->S.data.toList[j]?≠some 10):=hid (λj h h2=>by
     by_cases e:j=q
     ·subst e;rw[HG.out];intro h;cases h;exact h44 rfl
     ·exact HN.out j (by omega) h2)
    have t1:((c:Int)==10)=false:=by simp;omega
    clear g1 h44;go_wp2_with fail
    go_roundw
    case rel=>exact⟨q,by omega,by first|rfl|go_num,F.out,by first|rfl|trivial⟩
    case measure=>simp[intOf]
end Go.Proofs.T
