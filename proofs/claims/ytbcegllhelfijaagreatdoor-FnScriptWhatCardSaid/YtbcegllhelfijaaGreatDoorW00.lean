/-
  A part of the proof.
-/
import Derived.Conc.CompanyDraw
import Derived.Test.YtbcegllhelfijaaGreatDoorY30
set_option linter.all false
set_option maxRecDepth 100000
set_option maxHeartbeats 8000000
namespace Go.Proofs.T
open Go.RowKit
theorem Ends.app {x y:List UInt8}(hx:Ends x)(hy:Ends y):Ends (x++y):=by
 rcases hy with rfl|⟨p,rfl⟩
 ·simpa using hx
 ·exact .inr ⟨x++p,by simp⟩
theorem jzt (p:List UInt8):Ends (p++[10]):=.inr ⟨p,rfl⟩
theorem jze (k:Key):Ends (nodeC k):=by
 refine .inr ⟨decT k.1.toNat++(32::(logC k.2.1++(32::decT k.2.2.toNat))),?_⟩;simp[nodeC]
theorem jz5:∀ks:List Key,Ends (ks.flatMap nodeC)
 | []=>.inl rfl
 | k::r=>by
  rw[List.flatMap_cons];exact(jze k).app (jz5 r)
theorem jz8 (v:Int)(ks:List Key):Ends (chainC v ks):=by
 have h:chainC v ks=([118,105,101,119,32]++decT v.toNat++[10])++ks.flatMap nodeC:=by simp[chainC]
 rw[h];exact(jzt _).app (jz5 ks)
theorem jzf (r:Int×Int):Ends (readT r):=by
 unfold readT;split
 ·exact .inr ⟨IS++decT r.1.toNat,by simp⟩
 ·split
  ·exact .inr ⟨ASKED++decT r.1.toNat,by simp⟩
  ·split
   ·exact .inr ⟨[110,111,110,101],rfl⟩
   ·exact .inr ⟨[110,111],rfl⟩
theorem jyw (m:Mach)(v:Int)(o:Option (List Key)):Ends (doneK m v o).2:=by
 cases o with
 | none=>exact .inr ⟨[110,111],rfl⟩
 | some ks=>exact .inr ⟨[111,107],rfl⟩
theorem jzm (m:Mach)(c:Nat)(xs:List Int):Ends (doK m c xs).2:=by
 unfold doK;split
 ·exact jyw _ _ _
 ·exact jyw _ _ _
 ·exact jyw _ _ _
 ·exact jyw _ _ _
 ·exact jyw _ _ _
 ·exact .inr ⟨STEPS++decT (settleK m.2).2,by simp⟩
 ·exact jzf _
 ·exact jz8 _ _
theorem jzd (m:Mach)(l:List UInt8):Ends (lineK m l).2:=by
 unfold lineK lineW;split
 ·exact jzm _ _ _
 ·exact .inr ⟨[119,104,97,116],rfl⟩
theorem jz4:∀(ls:List (List UInt8))(s:Mach×List UInt8),Ends s.2->Ends (ls.foldl runF s).2
 | [],_,h=>h
 | l::r,s,h=>jz4 r (runF s l) (h.app (jzd _ _))
theorem jzk (ls:List (List UInt8)):Ends (runL ls).2:=jz4 ls _ (.inl rfl)
theorem jzn {t:List UInt8}(h:t.length<=400):execT t=(runL (linesOf t)).2++endT (runL (linesOf t)).1:=by
 unfold execT;rw[if_neg (by omega)]
def lastL (y:List UInt8):List UInt8:=y.drop (complete y.dropLast).length
theorem jyv {x y:List UInt8}(hx:Ends x)(hy:(10:UInt8)∉y):complete (x++y)=x:=by
 rcases hx with rfl|⟨p,rfl⟩
 ·exact j3v hy
 ·rw[j7o _ (p.length+1) (by omega) (by simp) (by simp) ?_]
  ·rw[show p.length+1=(p++[10]).length by simp,List.take_left]
  ·intro j hj hj2 he;rw[List.getElem?_append_right (by simp;omega)]at he;exact hy (List.mem_of_getElem? he)
theorem jzp {x:List UInt8}(hx:Ends x)(m:Mach):lastL (x++endT m)=endT m:=by
 unfold lastL;rcases jdx m with h|h
 ·rw[h,show(x++QUIET).dropLast=x++[113,117,105,101,116] by rw[List.dropLast_append_of_ne_nil (by simp[QUIET])];rfl,jyv hx (by decide),List.drop_left]
 ·rw[h,show(x++BUSY).dropLast=x++[98,117,115,121] by rw[List.dropLast_append_of_ne_nil (by simp[BUSY])];rfl,jyv hx (by decide),List.drop_left]
def ZZZ:List UInt8:=[122,122,122,10]
theorem jzq (m:Mach):lineK m [122,122,122]=(m,WHAT):=rfl
theorem jzr {t:List UInt8}(h:t.length+4<=400):execT (complete t++ZZZ)=(execT (complete t)).take ((execT (complete t)).length-(lastL (execT (complete t))).length)++(WHAT++lastL (execT (complete t))):=by
 rw[jf8 (by omega),jzn (t:=t) (by omega),jzp (jzk _)];have e:=jpl (t:=t) (l:=[122,122,122]) (by simp;omega) (by decide);show execT (complete t++([122,122,122]++[10]))=_;rw[e];unfold runF;rw[jzq];rw[show((runL (linesOf t)).2++endT (runL (linesOf t)).1).length-(endT (runL (linesOf t)).1).length=(runL (linesOf t)).2.length by simp,List.take_left];simp
end Go.Proofs.T
namespace Go.Proofs
@[simp] theorem Twn.func16:tnp.funcs[16]?=some Tryz.f16:=Twn.look Tryz.func16 rfl rfl
end Go.Proofs
namespace Go.Proofs.T
open Go.Lib (hid)
open Go.RowKit
theorem jzo {y:List UInt8}{q:Nat}(hq:q+1<y.length)(h:y[q]?=some 10)(hn:∀j,q+1<=j->j+1<y.length->y[j]?≠some 10):lastL y=y.drop (q+1):=by
 have e:complete y.dropLast=y.dropLast.take (q+1):=by
  refine j7o y.dropLast (q+1) (by omega) (by rw[List.length_dropLast];omega) ?_ λj h1 h2=>?_
  ·rw[Nat.add_sub_cancel,List.getElem?_dropLast,if_pos (by omega),h]
  ·rw[List.length_dropLast]at h2;rw[List.getElem?_dropLast,if_pos (by omega)];exact hn j h1 (by omega)
 unfold lastL;rw[e,List.length_take,List.length_dropLast,Nat.min_eq_left (by omega)]
theorem jzi {y:List UInt8}(hn:∀j,j+1<y.length->y[j]?≠some 10):lastL y=y:=by
 have e:complete y.dropLast=[]:=jgl λj h2=>by
  rw[List.length_dropLast]at h2;rw[List.getElem?_dropLast,if_pos (by omega)];exact hn j (by omega)
 unfold lastL;rw[e];rfl
theorem jz2 (S:ByteArray)(w:World)(hS:S.size<=140737488355328) :
  Calls tnp 16 #[.string S] w λe w'=>e=.returned (strB (lastL S.data.toList))/\w=w':=by
 have hlen:S.data.toList.length=S.size:=by simp
 go_enter Twn.func16,Tryz.ntmps16
 go_wp2_with fail
 go_loopw [3] (λi wr=>∃k:Nat,k<=S.size/\i=.int .i64 ((k:Int)-2)/\(∀j,k<=j+1->j+1<S.size->S.data.toList[j]?≠some 10)/\wr=w) (λi _=>(intOf i+1).toNat)
 case atStart=>exact⟨S.size,Nat.le_refl _,by first|rfl|go_num,λj h h2=>absurd h (by omega),rfl⟩
 case round=>
  obtain⟨k,hk,rfl,hno,hw⟩:=hrel;subst hw;have HN:=hid hno;have HLEN:=hid hlen;clear hno hlen;by_cases hk0:k<=1
  ·have F:Hid (lastL S.data.toList=S.data.toList):=hid (jzi λj hj=>HN.out j (by omega) (by rw[HLEN.out]at hj;exact hj));have i2:¬((k:Int)-2>=0):=by omega
   go_wp2_with fail
   go_ret
   exact⟨by rw[F.out,jrj];rfl,rfl⟩
  ·obtain⟨q,rfl⟩:∃q,k=q+2:=⟨k-2,by omega⟩;have hq:q<S.size:=by omega
   obtain⟨c8,hc8⟩:∃c,S[q]=c:=⟨_,rfl⟩;have HC8:=hid hc8;obtain⟨c,hc⟩:∃c:Nat,S[q].toNat=c:=⟨_,rfl⟩;have HCN:=hid hc;have hq2:q<S.data.toList.length:=by rw[HLEN.out];exact hq
   have HG:Hid (S.data.toList[q]?=some c8):=hid (by rw[List.getElem?_eq_getElem hq2,<- HC8.out];simp;rfl);have e1:(((q+2:Nat):Int)-2)=(q:Int):=by omega
   rw[e1];have i1:(q:Int)<(S.size:Int):=by omega
   have i2:(q:Int)>=0:=by omega
   have i3:(q:Int)+1<=(S.size:Int):=by omega
   clear hc8 hq2;by_cases g1:c=10
   ·have h44:c8=10:=by
     rw[<- HC8.out];exact UInt8.toNat_inj.1 (by rw[HCN.out,g1];rfl)
    have F:Hid (lastL S.data.toList=(S.extract (q+1) S.size).data.toList):=hid (by
     rw[jzo (q:=q) (by rw[HLEN.out];omega) (by rw[HG.out,h44]) (λj h h2=>HN.out j (by omega) (by rw[HLEN.out]at h2;exact h2)),Lib.extract_to_end])
    subst g1;clear h44;go_wp2_with fail
    go_ret
    exact⟨by rw[F.out,jrj];rfl,rfl⟩
   ·have h44:c8≠10:=λe=>g1 (by rw[<- HCN.out,HC8.out,e];rfl);have F:Hid (∀j,q+1<=j+1->j+1<S.size->S.data.toList[j]?≠some 10):=hid (λj h h2=>by
     by_cases e:j=q
     ·subst e;rw[HG.out];intro h;cases h;exact h44 rfl
     ·exact HN.out j (by omega) h2)
    have t1:((c:Int)==10)=false:=by simp;omega
    clear g1 h44;go_wp2_with fail
    go_roundw
    case rel=>exact⟨q+1,by omega,by go_num,F.out,by first|rfl|trivial⟩
    case measure=>simp[intOf]
end Go.Proofs.T
namespace Go.Proofs.Mn
open Go Go.Conc Go.RowKit
open Go.Proofs.T (execT strB complete BytesAt)
theorem jzu {W:World}(S:ByteArray)(hS:S.size<=100000000):∀w,KeptW W w->Calls tnp 16 #[.string S] w fun|.returned v,w2=>RetV (strB (Go.Proofs.T.lastL S.data.toList)) w v w2|_,_=>False:=λw hk=>(Go.Proofs.T.jz2 S w (by omega)).mono (by
 rintro e w4 ⟨rfl,rfl⟩;exact⟨rfl,λ_ _=>rfl,rfl,rfl,Nat.le_refl _⟩)
theorem Reaches.last {a:Value}{p:Addr}{W:World}{g0:Goroutine}{fr law:Frame}{S:ByteArray}(h:Reaches a p W g0 (G fr []))(hs:Start a p W)(hT:ToCall (G fr []) 16 #[.string S] law)(hS:S.size<=100000000):Reaches a p W g0 (G (law.finish (.string ⟨(Go.Proofs.T.lastL S.data.toList).toArray⟩)) []):=
 h.call hs hT.goes ⟨hT.mode,hT.kind⟩ (by decide) (by kernel_rfl) Tryz.func16 (by kernel_rfl) (jfw S) (jzu S hS)
open Go Go.Conc Go.RowKit Go.Conc.Lib Go.ConcR.Gen Go.ConcN.Gen
def cnt:Nat->(Nat->Bool)->Nat
 | 0,_=>0
 | n+1,f=>cnt n f+(if f n then 0 else 1)
theorem jza {f g:Nat->Bool}:∀{n:Nat},(∀j,j<n->g j=f j)->cnt n g=cnt n f
 | 0,_=>rfl
 | n+1,h=>by
  unfold cnt;rw[jza λj hj=>h j (by omega),h n (by omega)]
theorem jz9 {f g:Nat->Bool}{i:Nat}:∀{n:Nat},i<n->f i=false->(∀j,g j=if j=i then true else f j)->cnt n g+1=cnt n f
 | 0,h,_,_=>by omega
 | n+1,h,h0,h1=>by
  unfold cnt;by_cases e:i=n
  ·subst e;rw[jza (f:=f) (g:=g) λj hj=>by rw[h1 j,if_neg (by omega)],h1 i,if_pos rfl,h0];simp
  ·have hlt:i<n:=by have:i≠n:=e;omega
   have ih:=jz9 (n:=n) hlt h0 h1;have hg:g n=f n:=by rw[h1 n,if_neg (λx=>e x.symm)]
   rw[hg];omega
theorem jzs {f:Nat->Bool}:∀{n:Nat},cnt n f<=n
 | 0=>Nat.le_refl _
 | n+1=>by
  have:=jzs (n:=n) (f:=f);unfold cnt;split<;>omega
theorem jzb {f:Nat->Bool}:∀{n:Nat},cnt n f=0->∀j,j<n->f j=true
 | 0,_,j,hj=>by omega
 | n+1,h,j,hj=>by
  unfold cnt at h;by_cases e:j=n
  ·subst e;cases hf:f j with
   | true=>rfl
   | false=>rw[hf]at h;simp at h
  ·exact jzb (n:=n) (by omega) j (by omega)
theorem jyx {l:Array Bool}{i:Nat}(hi:i<l.size)(j:Nat):(l.setIfInBounds i true).getD j false=if j=i then true else l.getD j false:=by
 simp only[Array.getD_eq_getD_getElem?,Array.getElem?_setIfInBounds];by_cases e:i=j
 ·subst e;simp[hi]
 ·rw[if_neg e,if_neg (Ne.symm e)]
theorem jyt {ops:Array Oper}{listed:Array Bool}{i:Nat}(h:i∈Region.ready .any ops listed):i<ops.size/\i<listed.size/\listed.getD i false=false/\∀o,ops[i]?=some o->∀e∈o.after,Region.binds .any e=true->listed.getD e.on false=true:=by
 unfold Region.ready at h;rw[List.mem_filter]at h;obtain⟨h1,h2⟩:=h;simp only[Bool.and_eq_true,Bool.not_eq_true']at h2;obtain⟨h2,h3⟩:=h2;have hlt:i<listed.size:=by
  refine Nat.lt_of_not_le λhge=>?_;rw[Array.getD_eq_getD_getElem?,Array.getElem?_eq_none hge]at h2;cases h2
 refine⟨List.mem_range.1 h1,hlt,?_,λo ho e he hb=>?_⟩
 ·rw[Array.getD_eq_getD_getElem?,Array.getElem?_eq_getElem hlt]at h2 ⊢;exact h2
 ·rw[ho]at h3;simp only[Option.map_some,Option.getD_some]at h3;have:=Array.all_eq_true_iff_forall_mem.1 h3 e he;simp only[Bool.or_eq_true,Bool.not_eq_true']at this;rcases this with h|h
  ·rw[hb]at h;cases h
  ·exact h
theorem jzc {ops:Array Oper}{listed:Array Bool}(hs:listed.size=ops.size)(hon:∀(i:Nat)(o:Oper),ops[i]?=some o->∀e∈o.after,e.on<i)(h:Region.ready .any ops listed=[]):∀j,j<ops.size->listed.getD j false=true:=by
 intro j;induction j using Nat.strongRecOn with
 | ind j ih=>
  intro hj;refine Classical.byContradiction λhn=>?_;have hn':listed.getD j false=false:=by simpa using hn
  have:j∈Region.ready .any ops listed:=by
   unfold Region.ready;rw[List.mem_filter];refine⟨List.mem_range.2 hj,?_⟩;have e1:listed.getD j true=false:=by
    rw[Array.getD_eq_getD_getElem?,Array.getElem?_eq_getElem (by omega)]at hn' ⊢;exact hn'
   rw[e1,Array.getElem?_eq_getElem hj];simp only[Bool.not_false,Bool.true_and,Option.map_some,Option.getD_some];rw[Array.all_eq_true_iff_forall_mem];intro e he;have hlt:=hon j _ (Array.getElem?_eq_getElem hj) e he;rw[ih e.on hlt (by omega)];simp
  rw[h]at this;cases this
theorem jz7 {P:Program}(hm:P.follows .mixedOrders=true)(ops:Array Oper)(t:Nat):Region.schedule (P.follows .mixedOrders) ops t=Region.linearise.go .any ops ops.size t (Array.replicate ops.size false) []:=by
 simp only[Region.schedule,hm,Bool.true_or,if_true];rfl
section
variable {P:Program}{S:Nat->Prop}{B:Nat}{ops:Array Oper}{b:Frame}{k:List Item}{cs:List Frame}{Stop:Goroutine->World->Prop}
theorem jz3 {W0:World}(hbk:b.kind≠.early)(Inv:Array Bool->Act->Prop)(c m:Nat)(hsz:∀listed a,Inv listed a->listed.size=ops.size)(hon:∀(i:Nat)(o:Oper),ops[i]?=some o->∀e∈o.after,e.on<i)
  (hop:∀(listed:Array Bool)(a:Act)(i:Nat),Inv listed a->i∈Region.ready .any ops listed->i≠c->∃o v,ops[i]?=some o/\Region.wanted o (yielded ops a.tmps)=true/\(∀w,(execOp a.eval o).run P w=.ok (.value v) w)/\(∀w e,e∈Go.Conc.listed P b.fn a o w->False)/\Inv (listed.setIfInBounds i true) (a.put o.dst v))
  (hcall:∀fuel t listed a W,AtRel W0 W->cnt ops.size (λj=>listed.getD j false)=fuel+1->Inv listed a->c∈Region.ready .any ops listed->Goes P true AtRel (DE S B) Stop m (G (b.at a (.inRegion ops (c::Region.linearise.go .any ops fuel t (listed.setIfInBounds c true) [])::k)) cs) W)
  (hdone:∀listed a W,AtRel W0 W->Inv listed a->(∀j,j<ops.size->listed.getD j false=true)->Goes P true AtRel (DE S B) Stop m (G (b.at a (.inRegion ops []::k)) cs) W) :
  ∀fuel t listed a W,AtRel W0 W->Inv listed a->cnt ops.size (λj=>listed.getD j false)=fuel->Goes P true AtRel (DE S B) Stop (m+fuel) (G (b.at a (.inRegion ops (Region.linearise.go .any ops fuel t listed [])::k)) cs) W:=by
 intro fuel;induction fuel with
 | zero=>
  intro t listed a W hW hI hc;exact hdone listed a W hW hI (jzb hc)
 | succ fuel ih=>
  intro t listed a W hW hI hc;simp only[Region.linearise.go];change Goes P true AtRel (DE S B) Stop (m+(fuel+1)) (G (b.at a (.inRegion ops (match (Region.ready .any ops listed)[t % (Region.ready .any ops listed).length]? with
   | some i=>Region.linearise.go .any ops fuel (t / (Region.ready .any ops listed).length) (listed.setIfInBounds i true) [i]
   | none=>[].reverse)::k)) cs) W
  cases hi:(Region.ready .any ops listed)[t % (Region.ready .any ops listed).length]? with
  | none=>
   have hnil:Region.ready .any ops listed=[]:=by
    cases hr:Region.ready .any ops listed with
    | nil=>rfl
    | cons x xs=>
     rw[hr]at hi;have hlt:t % (x::xs).length<(x::xs).length:=Nat.mod_lt _ (by simp);simp at hi;simp at hlt;omega
   exact Goes.mono (hdone listed a W hW hI (jzc (hsz _ _ hI) hon hnil)) (by omega)
  | some i=>
   simp only[];rw[linearise_go_acc,List.reverse_singleton,List.singleton_append];have hm:=List.mem_of_getElem? hi;obtain⟨h1,h2,h3,_⟩:=jyt hm;have hc2:cnt ops.size (λj=>(listed.setIfInBounds i true).getD j false)=fuel:=by
    have:=jz9 (f:=λj=>listed.getD j false) (g:=λj=>(listed.setIfInBounds i true).getD j false) h1 h3 (jyx h2);omega
   by_cases e:i=c
   ·subst e;exact Goes.mono (hcall fuel _ listed a W hW hc hI hm) (by omega)
   ·obtain⟨o,v,ho,hw,hr,hl,hI2⟩:=hop listed a i hI hm e;refine Goes.step (n:=m+fuel) rfl λwy kb=>?_;refine goes_oper_k ho hw hbk λK hK=>?_;rw[hr wy];exact hK _ _ ⟨λe he=>(hl wy e he).elim,ih _ _ _ wy (atRel_trans _ _ _ hW kb) hI2 hc2⟩
end
theorem jz1 {a:Act}{d s:Nat}{v:Value}(hd:d<a.tmps.size):(a.put (some d) v).eval (.tmp s)=if s=d then v else a.eval (.tmp s):=by
 simp only[Act.put,Act.eval,Array.getD_eq_getD_getElem?,Array.getElem?_setIfInBounds];by_cases e:d=s
 ·subst e;simp[hd]
 ·rw[if_neg e,if_neg (Ne.symm e)]
def ToCallAny (g:Goroutine)(f:FuncId)(args:Array Value)(Ok:Frame->Prop):Prop:=∀(S:Nat->Prop)(B:Nat)(W:World),Goes Tryz.prog true AtRel (DE S B) (λg w=>∃law:Frame,law.mode=.run/\law.kind=.normal/\Ok law/\Called W f args law g w) 60 g W
theorem Reaches.implAny {a:Value}{p:Addr}{W:World}{g0:Goroutine}{fr:Frame}{Ok:Frame->Prop}{S V:ByteArray}(h:Reaches a p W g0 (G fr []))(hs:Start a p W)(hT:ToCallAny (G fr []) 13 #[.string S] Ok)(hV:(Go.Proofs.T.execT S.data.toList).toArray=V.data):∃law,Ok law/\Reaches a p W g0 (G (law.finish (.string V)) []):=by
 obtain rfl:V=⟨(Go.Proofs.T.execT S.data.toList).toArray⟩:=by rw[hV]
 letI:Atom:=⟨212,a⟩
 letI:Stays:=Stays.all W
 obtain⟨N,X,S0,gs,w,sl,t,q,r,h0,Y⟩:=h;obtain⟨N1,gs1,g1,w1,sl1,t1,q1,r1,_,h01,⟨law,hm,hk,hok,hat1,rfl⟩,L1,P1⟩:=walk_beside (λ_ _ _ h=>h) _ 60 gs _ w sl t q (Nat.le_refl _) h0 Y.leavers Y.past (hT _ _ w);have e1:w1.heap.size=w.heap.size:=by obtain⟨d,rfl⟩:=hat1;rfl
 have Y1:=Y.at hat1 L1 (by rw[e1];exact P1);have K1:=jee Y1;obtain⟨N2,X2,S2,gs2,w2,sl2,t2,q2,r2,h02,Y2⟩:=jny a (sl:=sl1) (V:=.string ⟨(Go.Proofs.T.execT S.data.toList).toArray⟩) hs.size Y1 (by decide) (by kernel_rfl) Tryz.func13 (by kernel_rfl) ⟨hm,hk⟩ (jfw S _) h01 (λτ=>(jx9 hs S (w1.on τ 0) ⟨K1.block,K1.size,K1.os,K1.output⟩));exact⟨law,hok,N+N1+N2,X2,S2,gs2,w2,sl2,t2,q2,Go.ConcX.runNT_trans (Go.ConcX.runNT_trans r r1) r2,h02,Y2⟩
def wslot (i:Nat):Nat:=if i=14 then 2 else 36+i
def ZZB:ByteArray:=⟨#[122,122,122,10]⟩
def WHB:ByteArray:=⟨#[119,104,97,116,10]⟩
def WV (X Y E:ByteArray):Nat->Value
 | 0=>.string X
 | 1=>.string (X++ZZB)
 | 2=>.string (Y.extract 0 (Y.size-E.size)++WHB++E)
 | 3|4=>.string Y
 | 5=>.int .i64 Y.size
 | 6=>.string E
 | 7=>.int .i64 E.size
 | 8=>.int .i64 ((Y.size:Int)-E.size)
 | 9=>.string (Y.extract 0 (Y.size-E.size))
 | 10=>.string (Y.extract 0 (Y.size-E.size)++WHB)
 | 11=>.string E
 | 12=>.string (Y.extract 0 (Y.size-E.size)++WHB++E)
 | _=>.bool true
structure WInv (X Y E:ByteArray)(listed:Array Bool)(a:Act):Prop where
 size:listed.size=15
 tsize:a.tmps.size=50
 defers:a.defers=[]
 x:a.eval (.tmp 6)=.string X
 y:a.eval (.tmp 7)=.string Y
 e:a.eval (.tmp 8)=.string E
 done:∀i,i<15->listed.getD i false=true->a.eval (.tmp (wslot i))=WV X Y E i
theorem WInv.step {X Y E:ByteArray}{listed:Array Bool}{a:Act}(h:WInv X Y E listed a){i:Nat}(hi:i<15):WInv X Y E (listed.setIfInBounds i true) (a.put (some (wslot i)) (WV X Y E i)):=by
 have hs:wslot i<a.tmps.size:=by rw[h.tsize];unfold wslot;split<;>omega
 have n6:∀s,s=6\/s=7\/s=8->s≠wslot i:=λs hs=>by unfold wslot;split<;>omega
 refine⟨by simp[h.size],by simp[Act.put,h.tsize],h.defers,?_,?_,?_,λj hj hl=>?_⟩
 ·rw[jz1 hs,if_neg (n6 6 (by omega))];exact h.x
 ·rw[jz1 hs,if_neg (n6 7 (by omega))];exact h.y
 ·rw[jz1 hs,if_neg (n6 8 (by omega))];exact h.e
 ·rw[jyx (by rw[h.size];exact hi)]at hl;rw[jz1 hs];by_cases e:j=i
  ·subst e;rw[if_pos rfl]
  ·rw[if_neg e]at hl;rw[if_neg (by unfold wslot;split<;>split<;>omega)];exact h.done j hj hl
def WOk (b:Frame)(ops:Array Oper)(k:List Item)(X Y E:ByteArray)(law:Frame):Prop:=∃fuel t listed a,cnt 15 (λj=>listed.getD j false)=fuel+1/\fuel<=14/\WInv X Y E listed a/\2∈Region.ready .any ops listed/\law=b.at a (.inRegion ops (2::Region.linearise.go .any ops fuel t (listed.setIfInBounds 2 true) [])::k)
theorem jzv {P:Program}{t:TypeId}(ht:P.underlying t=some .string)(y:ByteArray)(n:Int)(w:World)(h0:0<=n)(h1:n<=y.size):(Instr.sliceAt t (.string y) none (some (.int .i64 n)) none).events P w #[]=#[]:=by
 have e:(0<=n/\n<=(y.size:Int)):=⟨h0,h1⟩;have hu:(underlying t).run P w=.ok .string w:=by simp[underlying,program,go_sem,Sem.run,bind,Sem.bind,ht,pure]
 have he:(underlying t).events P w #[]=#[]:=by simp[underlying,program,Sem.events,Sem.runT,bind,Sem.bind,ht,pure]
 simp[Instr.sliceAt,Instr.slice,Instr.sliceBounds,Instr.sliceBound,go_sem,hu,he,e]
open Go Go.Conc Go.RowKit Go.Conc.Lib Go.ConcR.Gen Go.ConcN.Gen
def WOp (ops:Array Oper)(i:Nat)(op:Op)(ds:List Nat):Prop:=∃o,ops[i]?=some o/\o.dst=some (wslot i)/\o.op=op/\o.guard=none/\∀d∈ds,∃e∈o.after,e.on=d/\Region.binds .any e=true
structure WOps (ops:Array Oper):Prop where
 size:ops.size=15
 o0:WOp ops 0 (.move (.tmp 6)) []
 o1:WOp ops 1 (.binOp .add 9 (.tmp 36) (.const (.string ZZB)) 9) [0]
 o3:WOp ops 3 (.move (.tmp 7)) []
 o4:WOp ops 4 (.move (.tmp 7)) []
 o5:WOp ops 5 (.call { callee:=.builtin .len,args:=#[.tmp 40],argTypes:=#[9] }) [4]
 o6:WOp ops 6 (.move (.tmp 8)) []
 o7:WOp ops 7 (.call { callee:=.builtin .len,args:=#[.tmp 42],argTypes:=#[9] }) [6]
 o8:WOp ops 8 (.binOp .sub 3 (.tmp 41) (.tmp 43) 3) [5,7]
 o9:WOp ops 9 (.slice 9 (.tmp 39) none (some (.tmp 44)) none) [3,8]
 o10:WOp ops 10 (.binOp .add 9 (.tmp 45) (.const (.string WHB)) 9) [9]
 o11:WOp ops 11 (.move (.tmp 8)) []
 o12:WOp ops 12 (.binOp .add 9 (.tmp 46) (.tmp 47) 9) [10,11]
 o13:WOp ops 13 (.binOp .eql 9 (.tmp 38) (.tmp 48) 9) [2,12]
 o14:WOp ops 14 (.assign (.tmp 49)) [13]
theorem jyu {ops:Array Oper}{listed:Array Bool}{i d:Nat}{op:Op}{ds:List Nat}(h:WOp ops i op ds)(hi:i∈Region.ready .any ops listed)(hd:d∈ds):listed.getD d false=true:=by
 obtain⟨o,ho,_,_,_,h5⟩:=h;obtain⟨e,he,rfl,hb⟩:=h5 d hd;exact(jyt hi).2.2.2 o ho e he hb
def WStep (b:Frame)(ops:Array Oper)(a:Act)(i:Nat)(v:Value):Prop:=∃o,ops[i]?=some o/\o.dst=some (wslot i)/\Region.wanted o (yielded ops a.tmps)=true/\(∀w,(execOp a.eval o).run Tryz.prog w=.ok (.value v) w)/\(∀w e,e∈Go.Conc.listed Tryz.prog b.fn a o w->False)
theorem wstep {b:Frame}{ops:Array Oper}{a:Act}{i:Nat}{op:Op}{ds:List Nat}{v:Value}(h:WOp ops i op ds)(hr:∀o:Oper,o.op=op->∀w,(execOp a.eval o).run Tryz.prog w=.ok (.value v) w)(hl:∀o:Oper,o.op=op->∀w,(execOp a.eval o).events Tryz.prog w #[]=#[]):WStep b ops a i v:=by
 obtain⟨o,h1,h2,h3,h4,_⟩:=h;refine⟨o,h1,h2,?_,hr o h3,λw e he=>?_⟩
 ·unfold Region.wanted;rw[h4]
 ·have hm:=mem_listed he;rw[hl o h3 w]at hm;simp at hm
section
variable {b:Frame}{ops:Array Oper}{a:Act}{X Y E:ByteArray}{listed:Array Bool}
theorem jzl (O:WOps ops)(h:WInv X Y E listed a)(hX:X.size<=10000)(hY:Y.size<=9000000)(hE:E.size<=Y.size){i:Nat}(hi:i∈Region.ready .any ops listed)(hne:i≠2):WStep b ops a i (WV X Y E i):=by
 have z4:(ZZB:ByteArray).size=4:=rfl;have z5:(WHB:ByteArray).size=5:=rfl;have xs:(Y.extract 0 (Y.size-E.size)).size<=Y.size:=by rw[ByteArray.size_extract];omega
 have ws:IntKind.i64.wrap ((Y.size:Int)-E.size)=(Y.size:Int)-E.size:=IntWalk.i64_in _ (by omega);have tn:((Y.size:Int)-E.size).toNat=Y.size-E.size:=by omega
 have g0:(0:Int)<=(Y.size:Int)-E.size:=by omega
 have g1:(Y.size:Int)-E.size<=(Y.size:Int):=by omega
 have g2:¬Y.size<E.size:=by omega
 have hlt:i<15:=by rw[<- O.size];exact(jyt hi).1
 have hx:=h.x;have hy:=h.y;have he:=h.e;have hc:∀v,a.eval (.const v)=v:=λ_=>rfl;rcases(show i=0\/i=1\/i=3\/i=4\/i=5\/i=6\/i=7\/i=8\/i=9\/i=10\/i=11\/i=12\/i=13\/i=14 by omega)with rfl|rfl|rfl|rfl|rfl|rfl|rfl|rfl|rfl|rfl|rfl|rfl|rfl|rfl
 ·refine wstep O.o0 (λo ho w=>?_) λo ho w=>?_
  ·generalize a.eval=ρ at *;simp[execOp,ho,hc,resolve,invoke,builtin,Builtin.len_,go_sem,WV,hx]
  ·generalize a.eval=ρ at *;simp[execOp,ho,hc,resolve,invoke,builtin,Builtin.len_,go_sem,WV,hx]
 ·have d0:a.eval (.tmp 36)=WV X Y E 0:=h.done 0 (by omega) (jyu O.o1 hi (by simp));refine wstep O.o1 (λo ho w=>?_) λo ho w=>?_
  ·generalize a.eval=ρ at *;simp[execOp,ho,hc,resolve,invoke,builtin,Builtin.len_,go_sem,WV,d0,run_string_add_sum (P:=Tryz.prog) w X ZZB (by omega)]
  ·generalize a.eval=ρ at *;simp[execOp,ho,hc,resolve,invoke,builtin,Builtin.len_,go_sem,WV,d0,juj]
 ·refine wstep O.o3 (λo ho w=>?_) λo ho w=>?_
  ·generalize a.eval=ρ at *;simp[execOp,ho,hc,resolve,invoke,builtin,Builtin.len_,go_sem,WV,hy]
  ·generalize a.eval=ρ at *;simp[execOp,ho,hc,resolve,invoke,builtin,Builtin.len_,go_sem,WV,hy]
 ·refine wstep O.o4 (λo ho w=>?_) λo ho w=>?_
  ·generalize a.eval=ρ at *;simp[execOp,ho,hc,resolve,invoke,builtin,Builtin.len_,go_sem,WV,hy]
  ·generalize a.eval=ρ at *;simp[execOp,ho,hc,resolve,invoke,builtin,Builtin.len_,go_sem,WV,hy]
 ·have d4:a.eval (.tmp 40)=WV X Y E 4:=h.done 4 (by omega) (jyu O.o5 hi (by simp));refine wstep O.o5 (λo ho w=>?_) λo ho w=>?_
  ·generalize a.eval=ρ at *;simp[execOp,ho,hc,resolve,invoke,builtin,Builtin.len_,go_sem,WV,d4]
  ·generalize a.eval=ρ at *;simp[execOp,ho,hc,resolve,invoke,builtin,Builtin.len_,go_sem,WV,d4]
 ·refine wstep O.o6 (λo ho w=>?_) λo ho w=>?_
  ·generalize a.eval=ρ at *;simp[execOp,ho,hc,resolve,invoke,builtin,Builtin.len_,go_sem,WV,he]
  ·generalize a.eval=ρ at *;simp[execOp,ho,hc,resolve,invoke,builtin,Builtin.len_,go_sem,WV,he]
 ·have d6:a.eval (.tmp 42)=WV X Y E 6:=h.done 6 (by omega) (jyu O.o7 hi (by simp));refine wstep O.o7 (λo ho w=>?_) λo ho w=>?_
  ·generalize a.eval=ρ at *;simp[execOp,ho,hc,resolve,invoke,builtin,Builtin.len_,go_sem,WV,d6]
  ·generalize a.eval=ρ at *;simp[execOp,ho,hc,resolve,invoke,builtin,Builtin.len_,go_sem,WV,d6]
 ·have d5:a.eval (.tmp 41)=WV X Y E 5:=h.done 5 (by omega) (jyu O.o8 hi (by simp));have d7:a.eval (.tmp 43)=WV X Y E 7:=h.done 7 (by omega) (jyu O.o8 hi (by simp));refine wstep O.o8 (λo ho w=>?_) λo ho w=>?_
  ·generalize a.eval=ρ at *;simp[execOp,ho,hc,resolve,invoke,builtin,Builtin.len_,go_sem,WV,d5,d7,ws]
  ·generalize a.eval=ρ at *;simp[execOp,ho,hc,resolve,invoke,builtin,Builtin.len_,go_sem,WV,d5,d7]
 ·have d3:a.eval (.tmp 39)=WV X Y E 3:=h.done 3 (by omega) (jyu O.o9 hi (by simp));have d8:a.eval (.tmp 44)=WV X Y E 8:=h.done 8 (by omega) (jyu O.o9 hi (by simp));refine wstep O.o9 (λo ho w=>?_) λo ho w=>?_
  ·generalize a.eval=ρ at *;simp[execOp,ho,hc,resolve,invoke,builtin,Builtin.len_,go_sem,WV,d3,d8,tn,g0,g1,g2]
  ·generalize a.eval=ρ at *;simp[execOp,ho,hc,resolve,invoke,builtin,Builtin.len_,go_sem,WV,d3,d8,jzv (P:=Tryz.prog) (t:=9) Tryz.underlying9 Y ((Y.size:Int)-E.size) w g0 g1]
 ·have d9:a.eval (.tmp 45)=WV X Y E 9:=h.done 9 (by omega) (jyu O.o10 hi (by simp));refine wstep O.o10 (λo ho w=>?_) λo ho w=>?_
  ·generalize a.eval=ρ at *;simp[execOp,ho,hc,resolve,invoke,builtin,Builtin.len_,go_sem,WV,d9,run_string_add_sum (P:=Tryz.prog) w (Y.extract 0 (Y.size-E.size)) WHB (by omega)]
  ·generalize a.eval=ρ at *;simp[execOp,ho,hc,resolve,invoke,builtin,Builtin.len_,go_sem,WV,d9,juj]
 ·refine wstep O.o11 (λo ho w=>?_) λo ho w=>?_
  ·generalize a.eval=ρ at *;simp[execOp,ho,hc,resolve,invoke,builtin,Builtin.len_,go_sem,WV,he]
  ·generalize a.eval=ρ at *;simp[execOp,ho,hc,resolve,invoke,builtin,Builtin.len_,go_sem,WV,he]
 ·have d10:a.eval (.tmp 46)=WV X Y E 10:=h.done 10 (by omega) (jyu O.o12 hi (by simp));have d11:a.eval (.tmp 47)=WV X Y E 11:=h.done 11 (by omega) (jyu O.o12 hi (by simp));refine wstep O.o12 (λo ho w=>?_) λo ho w=>?_
  ·generalize a.eval=ρ at *;simp[execOp,ho,hc,resolve,invoke,builtin,Builtin.len_,go_sem,WV,d10,d11,run_string_add_sum (P:=Tryz.prog) w (Y.extract 0 (Y.size-E.size)++WHB) E (by rw[ByteArray.size_append];omega)]
  ·generalize a.eval=ρ at *;simp[execOp,ho,hc,resolve,invoke,builtin,Builtin.len_,go_sem,WV,d10,d11,juj]
 ·have d2:a.eval (.tmp 38)=WV X Y E 2:=h.done 2 (by omega) (jyu O.o13 hi (by simp));have d12:a.eval (.tmp 48)=WV X Y E 12:=h.done 12 (by omega) (jyu O.o13 hi (by simp));refine wstep O.o13 (λo ho w=>?_) λo ho w=>?_
  ·generalize a.eval=ρ at *;simp[execOp,ho,hc,resolve,invoke,builtin,Builtin.len_,go_sem,WV,d2,d12]
  ·generalize a.eval=ρ at *;simp[execOp,ho,hc,resolve,invoke,builtin,Builtin.len_,go_sem,WV,d2,d12]
 ·have d13:a.eval (.tmp 49)=WV X Y E 13:=h.done 13 (by omega) (jyu O.o14 hi (by simp));refine wstep O.o14 (λo ho w=>?_) λo ho w=>?_
  ·generalize a.eval=ρ at *;simp[execOp,ho,hc,resolve,invoke,builtin,Builtin.len_,go_sem,WV,d13]
  ·generalize a.eval=ρ at *;simp[execOp,ho,hc,resolve,invoke,builtin,Builtin.len_,go_sem,WV,d13]
end
theorem jys {ops:Array Oper}{i:Nat}{op:Op}{ds:List Nat}(o:Oper)(h0:ops[i]?=some o)(h1:o.dst=some (wslot i))(h2:o.op=op)(h3:o.guard=none)(h4:(ds.all λd=>o.after.toList.any λe=>e.on==d&&Region.binds .any e)=true):WOp ops i op ds:=by
 refine⟨o,h0,h1,h2,h3,λd hd=>?_⟩;have h5:=List.all_eq_true.1 h4 d hd;rw[List.any_eq_true]at h5;obtain⟨e,he,h6⟩:=h5;simp only[Bool.and_eq_true,beq_iff_eq]at h6;exact⟨e,by simpa using he,h6.1,h6.2⟩
theorem jzj {ops:Array Oper}(h:((List.range ops.size).all λi=>match ops[i]? with|some o=>o.after.toList.all λe=>decide (e.on<i)|none=>true)=true):∀(i:Nat)(o:Oper),ops[i]?=some o->∀e∈o.after,e.on<i:=by
 intro i o ho e he;have h1:=List.all_eq_true.1 h i (List.mem_range.2 (Array.getElem?_eq_some_iff.1 ho).1);rw[ho]at h1;simp only at h1;have:=List.all_eq_true.1 h1 e (by simpa using he);simpa using this
theorem jz6 {n i:Nat}:(Array.replicate n false).getD i false=false:=by
 simp only[Array.getD_eq_getD_getElem?,Array.getElem?_replicate];split<;>rfl
theorem jzh {X Y E:ByteArray}{a:Act}{n:Nat}(hn:n=15)(ht:a.tmps.size=50)(hd:a.defers=[])(hx:a.eval (.tmp 6)=.string X)(hy:a.eval (.tmp 7)=.string Y)(he:a.eval (.tmp 8)=.string E):WInv X Y E (Array.replicate n false) a:=
 ⟨by simp[hn],ht,hd,hx,hy,he,λi _ hl=>by rw[jz6]at hl;cases hl⟩
theorem gs {P:Program}{m:Bool}{D:World->World->Array Event->Prop}{Z:Goroutine->World->Prop}{n:Nat}{g:Goroutine}{u w:World}(hH:AtRel u w)(hs:g.status=.running)(h:∀x,AtRel u x->(stepG P m g x).goes λa b e=>D x b e/\Goes P m AtRel D Z n a b):Goes P m AtRel D Z (n+1) g w:=.step hs λx k=>h x (hH.atr k)
theorem gt {P:Program}{m:Bool}{S:Nat->Prop}{B:Nat}{Z:Goroutine->World->Prop}{n:Nat}{g b:Goroutine}{u w:World}(hH:AtRel u w)(hs:g.status=.running)(e:∀x,stepG P m g x=.go b x #[])(h:∀x,AtRel u x->Goes P m AtRel (DE S B) Z n b x):Goes P m AtRel (DE S B) Z (n+1) g w:=gs hH hs λx k=>by
 rw[e];exact⟨j6,h x k⟩
end Go.Proofs.Mn
