/-
  A part of the proof.
-/
import Derived.Stop.IfaceNil
import Derived.Test.YtbcegllhelfijaaGreatDoorY17
set_option linter.all false
set_option maxRecDepth 100000
set_option maxHeartbeats 8000000
namespace Go.Proofs.T
open Go.RowKit
def kat (ks:List Key)(i:Nat):Key:=ks.getD i (0,[],0)
theorem j25 (ns:List Nd)(i:Nat):kat (keys ns) i=keyOf (nd ns i):=by
 by_cases h:i<ns.length
 ·simp[kat,keys,nd,h]
 ·have h1:ns.length<=i:=by omega
  simp[kat,keys,nd,h1];rfl
theorem jxa {ks:List Key}{i:Nat}(h:i<ks.length):kat ks i=ks[i]:=by simp[kat,h]
theorem jfd {ks:List Key}{i:Nat}{k:Key}(j:Nat)(hi:i<ks.length):kat (ks.set i k) j=if i=j then k else kat ks j:=by
 unfold kat;rw[List.getD_eq_getElem?_getD,List.getElem?_set,List.getD_eq_getElem?_getD];by_cases h:i=j
 ·subst h;simp[hi]
 ·simp[h]
abbrev kid (ks:List Key)(i:Nat):Int:=(kat ks i).1
abbrev klog (ks:List Key)(i:Nat):List Upd:=(kat ks i).2.1
abbrev kdone (ks:List Key)(i:Nat):Int:=(kat ks i).2.2
def stepK (ks:List Key)(i:Nat):Prop:=
 nodeOk (kid ks i) (klog ks i) (kdone ks i)=true/\(∀j,j<i->kid ks j≠kid ks i)/\(0<i->klog ks i <+: klog ks (i-1)/\kdone ks (i-1)<=kdone ks i)
instance (ks:List Key)(i:Nat):Decidable (stepK ks i):=by unfold stepK;infer_instance
def VP (v:Int)(ks:List Key):Prop:=(0<=v/\v<=999)/\(1<=ks.length/\ks.length<=5)/\(∀i,i<ks.length->stepK ks i)/\kdone ks (ks.length-1)=(klog ks (ks.length-1)).length
instance (v:Int)(ks:List Key):Decidable (VP v ks):=by unfold VP;infer_instance
def okB (v:Int)(ks:List Key):Bool:=decide (VP v ks)
theorem j1p {v:Int}{ks:List Key}:okB v ks=true↔VP v ks:=by simp[okB]
theorem jb2 {v:Int}{ns:List Nd}:chainP v ns↔VP v (keys ns):=by
 unfold chainP VP stepP stepK tailP kid klog kdone;simp only[j25,j17,keyOf]
theorem jt (v:Int)(ns:List Nd):chainOk v ns=okB v (keys ns):=by
 cases h:okB v (keys ns)with
 | true=>exact j45 (jb2.2 (j1p.1 h))
 | false=>
  refine j3e λhc=>?_;rw[j1p.2 (jb2.1 hc)]at h;cases h
def takeAt (ks:List Key)(i:Nat)(u:Upd):List Key:=ks.set i (kid ks i,klog ks i++[u],if i+1=ks.length then((klog ks i).length:Int)+1 else kdone ks i)
def writeK (ks:List Key)(u:Upd):Option (List Key):=if updOk u=true/\(klog ks 0).length<12 then some (takeAt ks 0 u)else none
def passN (ks:List Key)(at_:Nat):Option (List Key):=if at_+1<ks.length/\(klog ks at_).length≠(klog ks (at_+1)).length then some (takeAt ks (at_+1) ((klog ks at_).getD (klog ks (at_+1)).length (0,0)))else none
def passK (ks:List Key)(at_:Int):Option (List Key):=if 0<=at_ then passN ks at_.toNat else none
def tellN (ks:List Key)(at_:Nat):Option (List Key):=if at_+1<ks.length/\kdone ks at_≠kdone ks (at_+1)then some (ks.set at_ (kid ks at_,klog ks at_,kdone ks (at_+1)))else none
def tellK (ks:List Key)(at_:Int):Option (List Key):=if 0<=at_ then tellN ks at_.toNat else none
def fixK (ks:List Key):List Key:=ks.set (ks.length-1) (kid ks (ks.length-1),klog ks (ks.length-1),((klog ks (ks.length-1)).length:Int))
def guardK (v:Int)(ks:List Key):Option (List Key):=if okB v ks=true then some ks else none
def dropK (v:Int)(ks:List Key)(x:Int):Option (List Key):=if 0<=place (ks.map (·.1)) x then guardK (v+1) (fixK (ks.eraseIdx (place (ks.map (·.1)) x).toNat))else none
def addK (v:Int)(ks:List Key)(x:Int):Option (List Key):=guardK (v+1) (ks++[(x,klog ks (ks.length-1),((klog ks (ks.length-1)).length:Int))])
theorem j1o {id:Int}{us:List Upd}{d:Int}:nodeOk id us d=true↔(1<=id/\id<=99)/\logOk us=true/\0<=d/\d<=us.length:=by
 unfold nodeOk;simp only[Bool.and_eq_true,decide_eq_true_eq,and_assoc]
theorem j2i {us:List Upd}:logOk us=true↔us.length<=12/\∀u∈us,updOk u=true:=by
 simp[logOk]
theorem VP.lens {v:Int}{ks:List Key}(h:VP v ks):∀i j,i<=j->j<ks.length->klog ks j <+: klog ks i/\(klog ks j).length<=(klog ks i).length:=by
 intro i j hij hj;induction j with
 | zero=>
  obtain rfl:i=0:=by omega
  exact⟨List.prefix_refl _,Nat.le_refl _⟩
 | succ j ih=>
  by_cases e:i=j+1
  ·subst e;exact⟨List.prefix_refl _,Nat.le_refl _⟩
  ·have h1:=(h.2.2.1 (j+1) hj).2.2 (by omega);have h2:=ih (by omega) (by omega);rw[show j+1-1=j by omega]at h1;have h3:=h1.1.trans h2.1;exact⟨h3,h3.length_le⟩
theorem VP.log {v:Int}{ks:List Key}(h:VP v ks)(i:Nat)(hi:i<ks.length):logOk (klog ks i)=true/\(klog ks i).length<=12:=by
 have h1:=(j1o.1 (h.2.2.1 i hi).1).2.1;exact⟨h1,(j2i.1 h1).1⟩
theorem VP.take {v:Int}{ks:List Key}(h:VP v ks){i:Nat}{u:Upd}(hi:i<ks.length)(hu:updOk u=true)(hl:(klog ks i).length<12)(hp:0<i->klog ks i++[u] <+: klog ks (i-1)):VP v (takeAt ks i u):=by
 have hk:∀j,kat (takeAt ks i u) j=if i=j then(kid ks i,klog ks i++[u],if i+1=ks.length then((klog ks i).length:Int)+1 else kdone ks i)else kat ks j:=λj=>jfd j hi
 have hlen:(takeAt ks i u).length=ks.length:=by simp[takeAt]
 obtain⟨h1,h2,h3,h4⟩:=h;refine⟨h1,by rw[hlen];exact h2,?_,?_⟩
 ·intro j hj;rw[hlen]at hj;obtain⟨s1,s2,s3⟩:=h3 j hj;refine⟨?_,?_,?_⟩
  ·unfold kid klog kdone;rw[hk];by_cases e:i=j
   ·subst e;rw[if_pos rfl];rw[j1o]at s1 ⊢;refine⟨s1.1,j2i.2 ⟨by simp;omega,λx hx=>?_⟩,?_⟩
    ·rcases List.mem_append.1 hx with hx|hx
     ·exact(j2i.1 s1.2.1).2 x hx
     ·rw[List.mem_singleton.1 hx];exact hu
    ·dsimp only;have:=s1.2.2;split<;>simp<;>omega
   ·rw[if_neg e];exact s1
  ·intro m hm;have:=s2 m hm;unfold kid;rw[hk,hk];by_cases e:i=j
   ·subst e;rw[if_pos rfl,if_neg (by omega)];exact this
   ·rw[if_neg e];by_cases e2:i=m
    ·subst e2;rw[if_pos rfl];exact this
    ·rw[if_neg e2];exact this
  ·intro h0;have:=s3 h0;unfold klog kdone;rw[hk,hk];by_cases e:i=j
   ·subst e;rw[if_pos rfl,if_neg (show¬i=i-1 by omega)];refine⟨hp h0,?_⟩;dsimp only;have e1:=(j1o.1 s1).2.2;split
    ·have h7:=Int.le_trans this.2 e1.2;exact Int.le_trans h7 (by omega)
    ·exact this.2
   ·rw[if_neg e];by_cases e2:i=j-1
    ·subst e2;rw[if_pos rfl];refine⟨this.1.trans (List.prefix_append _ _),?_⟩;dsimp only;rw[if_neg (by omega)];exact this.2
    ·rw[if_neg e2];exact this
 ·rw[hlen];unfold klog kdone;rw[hk];by_cases e:i=ks.length-1
  ·rw[if_pos e];dsimp only;rw[if_pos (by omega)];simp
  ·rw[if_neg e];exact h4
theorem VP.write {v:Int}{ks ls:List Key}{u:Upd}(h:VP v ks)(hw:writeK ks u=some ls):VP v ls:=by
 unfold writeK at hw;split at hw
 ·rename_i hc
  cases hw;exact h.take (by have:=h.2.1;omega) hc.1 hc.2 (by omega)
 ·cases hw
theorem jce {v:Int}{ks:List Key}{i:Nat}(h:VP v ks)(hi:i+1<ks.length)(hne:(klog ks i).length≠(klog ks (i+1)).length):(klog ks (i+1)).length<(klog ks i).length/\klog ks (i+1)++[(klog ks i).getD (klog ks (i+1)).length (0,0)] <+: klog ks i/\updOk ((klog ks i).getD (klog ks (i+1)).length (0,0))=true:=by
 have h1:=h.lens i (i+1) (by omega) hi;have h2:=h.log i (by omega);have hlt:(klog ks (i+1)).length<(klog ks i).length:=by omega
 have hg:(klog ks i).getD (klog ks (i+1)).length (0,0)=(klog ks i)[(klog ks (i+1)).length]:=by simp[List.getD,hlt]
 refine⟨hlt,?_,?_⟩
 ·rw[hg];obtain⟨t,ht⟩:=h1.1;have e1:klog ks (i+1)=(klog ks i).take (klog ks (i+1)).length:=by rw[<- ht];simp
  have e2:(klog ks i).take ((klog ks (i+1)).length+1)=klog ks (i+1)++[(klog ks i)[(klog ks (i+1)).length]]:=by
   rw[List.take_succ_eq_append_getElem hlt,<- e1]
  rw[<- e2];exact List.take_prefix _ _
 ·rw[hg];exact(j2i.1 h2.1).2 _ (List.getElem_mem _)
theorem VP.pass {v:Int}{ks ls:List Key}{i:Nat}(h:VP v ks)(hw:passN ks i=some ls):VP v ls:=by
 unfold passN at hw;split at hw
 ·rename_i hc
  cases hw;obtain⟨h1,h2,h3⟩:=jce h hc.1 hc.2;exact h.take hc.1 h3 (by have:=(h.log i (by omega)).2;omega) (λ_=>by rw[show i+1-1=i by omega];exact h2)
 ·cases hw
theorem VP.tell {v:Int}{ks ls:List Key}{i:Nat}(h:VP v ks)(hw:tellN ks i=some ls):VP v ls:=by
 unfold tellN at hw;split at hw
 ·rename_i hc
  cases hw;have hi:i<ks.length:=by omega
  have hk:∀j,kat (ks.set i (kid ks i,klog ks i,kdone ks (i+1))) j=if i=j then(kid ks i,klog ks i,kdone ks (i+1))else kat ks j:=λj=>jfd j hi
  have hs:=(h.2.2.1 (i+1) hc.1);have hs3:=hs.2.2 (by omega);rw[show i+1-1=i by omega]at hs3;have hn:=(j1o.1 hs.1).2.2;have hl:=(h.lens i (i+1) (by omega) hc.1).2;obtain⟨h1,h2,h3,h4⟩:=h;refine⟨h1,by rw[List.length_set];exact h2,?_,?_⟩
  ·intro j hj;rw[List.length_set]at hj;obtain⟨s1,s2,s3⟩:=h3 j hj;refine⟨?_,?_,?_⟩
   ·unfold kid klog kdone;rw[hk];by_cases e:i=j
    ·subst e;rw[if_pos rfl];rw[j1o]at s1 ⊢;exact⟨s1.1,s1.2.1,by dsimp only;omega⟩
    ·rw[if_neg e];exact s1
   ·intro m hm;have:=s2 m hm;unfold kid;rw[hk,hk];by_cases e:i=j
    ·subst e;rw[if_pos rfl,if_neg (by omega)];exact this
    ·rw[if_neg e];by_cases e2:i=m
     ·subst e2;rw[if_pos rfl];exact this
     ·rw[if_neg e2];exact this
   ·intro h0;have:=s3 h0;unfold klog kdone;rw[hk,hk];by_cases e:i=j
    ·subst e;rw[if_pos rfl,if_neg (show¬i=i-1 by omega)];refine⟨this.1,?_⟩;dsimp only;exact Int.le_trans this.2 hs3.2
    ·rw[if_neg e];by_cases e2:i=j-1
     ·subst e2;rw[if_pos rfl];refine⟨this.1,?_⟩;dsimp only;rw[show j-1+1=j by omega];exact Int.le_refl _
     ·rw[if_neg e2];exact this
  ·rw[List.length_set];unfold klog kdone;rw[hk,if_neg (by omega)];exact h4
 ·cases hw
theorem VP.guard {v w:Int}{ks ls:List Key}(h:guardK v ks=some ls):VP v ls:=by
 unfold guardK at h;split at h
 ·rename_i hc;cases h;exact j1p.1 hc
 ·cases h
abbrev klen (ks:List Key)(i:Nat):Nat:=(klog ks i).length
def qF (L:Nat)(f:Nat->Nat):Nat->Nat->List Nat
 | _,0=>[]
 | k,r+1=>List.replicate (L-f k) (k-1)++qF L f (k+1) r
def qP (ks:List Key):List Nat:=qF (klen ks 0) (klen ks) 0 ks.length
def downs:Nat->List Nat
 | 0=>[]
 | k+1=>k::downs k
def stepQ (ks:List Key)(s:Bool×Nat):Option (List Key):=if s.1=true then tellN ks s.2 else passN ks s.2
def runQ:List (Bool×Nat)->List Key->Nat->List Key×Nat
 | [],ks,n=>(ks,n)
 | s::q,ks,n=>match stepQ ks s with
  | some ls=>runQ q ls (n+1)
  | none=>runQ q ks n
def queueK (ks:List Key):List (Bool×Nat):=(qP ks).map (λa=>(false,a))++(downs (ks.length-1)).map (λa=>(true,a))
def settleK (ks:List Key):List Key×Nat:=runQ (queueK ks) ks 0
def findUp (f:Nat->Option (List Key)):Nat->Nat->Option (List Key)
 | _,0=>none
 | k,r+1=>match f k with
  | some x=>some x
  | none=>findUp f (k+1) r
def findDown (f:Nat->Option (List Key)):Nat->Option (List Key)
 | 0=>none
 | k+1=>match f k with
  | some x=>some x
  | none=>findDown f k
def stepS (ks:List Key):Option (List Key):=match findUp (passN ks) 0 (ks.length-1)with
 | some x=>some x
 | none=>findDown (tellN ks) (ks.length-1)
def loopS:Nat->List Key->Nat->List Key×Nat
 | 0,ks,n=>(ks,n)
 | f+1,ks,n=>match stepS ks with
  | some ls=>loopS f ls (n+1)
  | none=>(ks,n)
def settleS (ks:List Key):List Key×Nat:=loopS 101 ks 0
def QP (ks:List Key):Prop:=∀i,i<ks.length->klen ks i=klen ks 0/\kdone ks i=(klen ks 0:Nat)
instance (ks:List Key):Decidable (QP ks):=by unfold QP;infer_instance
def quietK (ks:List Key):Bool:=decide (QP ks)
theorem jcj {s:Bool×Nat}{q:List (Bool×Nat)}{ks ls:List Key}{n:Nat}(h:stepQ ks s=some ls):runQ (s::q) ks n=runQ q ls (n+1):=by rw[runQ,h]
theorem ji0 {s:Bool×Nat}{q:List (Bool×Nat)}{ks:List Key}{n:Nat}(h:stepQ ks s=none):runQ (s::q) ks n=runQ q ks n:=by rw[runQ,h]
theorem j97 {f:Nat}{ks ls:List Key}{n:Nat}(h:stepS ks=some ls):loopS (f+1) ks n=loopS f ls (n+1):=by rw[loopS,h]
theorem je6 {f:Nat}{ks:List Key}{n:Nat}(h:stepS ks=none):loopS (f+1) ks n=(ks,n):=by rw[loopS,h]
theorem jk2 (L:Nat)(f:Nat->Nat)(k r:Nat):qF L f k (r+1)=List.replicate (L-f k) (k-1)++qF L f (k+1) r:=rfl
theorem jbq {f:Nat->Option (List Key)}{x:List Key}:∀(r k a:Nat),k<=a->a<k+r->(∀b,k<=b->b<a->f b=none)->f a=some x->findUp f k r=some x
 | 0,k,a,h1,h2,_,_=>by omega
 | r+1,k,a,h1,h2,h3,h4=>by
  unfold findUp;by_cases e:k=a
  ·subst e;rw[h4]
  ·rw[h3 k (Nat.le_refl _) (by omega)];exact jbq r (k+1) a (by omega) (by omega) (λb hb hb2=>h3 b (by omega) hb2) h4
theorem j4a {f:Nat->Option (List Key)}:∀(r k:Nat),(∀b,k<=b->b<k+r->f b=none)->findUp f k r=none
 | 0,_,_=>rfl
 | r+1,k,h=>by
  unfold findUp;rw[h k (Nat.le_refl _) (by omega)];exact j4a r (k+1) λb hb hb2=>h b (by omega) (by omega)
theorem j70 {f:Nat->Option (List Key)}{x:List Key}:∀(m a:Nat),a<m->(∀b,a<b->b<m->f b=none)->f a=some x->findDown f m=some x
 | 0,a,h,_,_=>by omega
 | m+1,a,h1,h2,h3=>by
  unfold findDown;by_cases e:m=a
  ·subst e;rw[h3]
  ·rw[h2 m (by omega) (by omega)];exact j70 m a (by omega) (λb hb hb2=>h2 b hb (by omega)) h3
theorem j5e {f:Nat->Option (List Key)}:∀(m:Nat),(∀b,b<m->f b=none)->findDown f m=none
 | 0,_=>rfl
 | m+1,h=>by
  unfold findDown;rw[h m (by omega)];exact j5e m λb hb=>h b (by omega)
theorem jaw {L:Nat}{f g:Nat->Nat}:∀(r k:Nat),(∀j,k<=j->f j=g j)->qF L f k r=qF L g k r
 | 0,_,_=>rfl
 | r+1,k,h=>by
  unfold qF;rw[h k (Nat.le_refl _),jaw r (k+1) λj hj=>h j (by omega)]
theorem jr2 {L:Nat}{f:Nat->Nat}:∀(r k:Nat),(qF L f k r).length<=r*L
 | 0,_=>by simp[qF]
 | r+1,k=>by
  unfold qF;have:=jr2 (L:=L) (f:=f) r (k+1);rw[List.length_append,List.length_replicate,Nat.add_mul];omega
theorem jr1 {L:Nat}{f:Nat->Nat}{a:Nat}{q:List Nat}:∀(r k:Nat),qF L f k r=a::q->∃i,k<=i/\i<k+r/\a=i-1/\(∀j,k<=j->j<i->L<=f j)/\f i<L/\q=qF L (λj=>if i=j then f j+1 else f j) k r
 | 0,_,h=>by cases h
 | r+1,k,h=>by
  unfold qF at h;by_cases e:L-f k=0
  ·rw[e]at h;obtain⟨i,h1,h2,h3,h4,h5,h6⟩:=jr1 r (k+1) h;refine⟨i,by omega,by omega,h3,λj hj hj2=>?_,h5,?_⟩
   ·by_cases e2:j=k
    ·subst e2;omega
    ·exact h4 j (by omega) hj2
   ·unfold qF;rw[if_neg (by omega),e,h6];rfl
  ·obtain⟨s,hs⟩:∃s,L-f k=s+1:=⟨L-f k-1,by omega⟩;rw[hs,List.replicate_succ]at h;cases h;refine⟨k,Nat.le_refl _,by omega,rfl,by omega,by omega,?_⟩;rw[jk2,if_pos rfl,show L-(f k+1)=s by omega,jaw r (k+1) (g:=f) λj hj=>if_neg (by omega)];rfl
theorem juo {L:Nat}{f:Nat->Nat}:∀(r k:Nat),qF L f k r=[]->∀j,k<=j->j<k+r->L<=f j
 | 0,k,_,j,h1,h2=>by omega
 | r+1,k,h,j,h1,h2=>by
  unfold qF at h;rw[List.append_eq_nil_iff]at h;by_cases e:j=k
  ·subst e;have:=congrArg List.length h.1;simp at this;omega
  ·exact juo r (k+1) h.2 j (by omega) (by omega)
theorem jej (ks:List Key)(i:Nat)(u:Upd):(takeAt ks i u).length=ks.length:=by simp[takeAt]
theorem jcu {ks:List Key}{i:Nat}{u:Upd}(hi:i<ks.length)(j:Nat):klen (takeAt ks i u) j=if i=j then klen ks j+1 else klen ks j:=by
 unfold klen klog takeAt;rw[jfd j hi];by_cases e:i=j
 ·subst e;rw[if_pos rfl,if_pos rfl];simp
 ·rw[if_neg e,if_neg e]
theorem jnt {v:Int}{ks:List Key}{a:Nat}{q:List Nat}(h:VP v ks)(hq:qP ks=a::q):∃ls,passN ks a=some ls/\VP v ls/\ls.length=ks.length/\qP ls=q/\stepS ks=some ls:=by
 obtain⟨i,h1,h2,h3,h4,h5,h6⟩:=jr1 _ _ hq;have hi0:i≠0:=by rintro rfl;omega
 obtain rfl:i=a+1:=by omega
 have hl:a+1<ks.length:=by omega
 have hlen:∀j,j<a+1->klen ks j=klen ks 0:=λj hj=>by
  have:=(h.lens 0 j (Nat.zero_le _) (by omega)).2;have:=h4 j (Nat.zero_le _) hj;show(klog ks j).length=(klog ks 0).length;unfold klen at *;omega
 have ha:=hlen a (by omega);have hne:(klog ks a).length≠(klog ks (a+1)).length:=by
  unfold klen at *;omega
 have hp:passN ks a=some (takeAt ks (a+1) ((klog ks a).getD (klog ks (a+1)).length (0,0))):=by
  unfold passN;rw[if_pos ⟨hl,hne⟩]
 refine⟨_,hp,h.pass hp,jej _ _ _,?_,?_⟩
 ·rw[h6];unfold qP;rw[jej,jcu hl,if_neg (by omega)];exact jaw _ _ λj _=>jcu hl j
 ·unfold stepS;rw[jbq (ks.length-1) 0 a (Nat.zero_le _) (by omega) (λb _ hb=>?_) hp];unfold passN;rw[if_neg];intro hc;exact hc.2 ((hlen b (by omega)).trans (hlen (b+1) (by omega)).symm)
theorem jea {v:Int}(T:List (Bool×Nat)):∀(q:List Nat)(ks:List Key)(n:Nat),VP v ks->qP ks=q->∃ls,VP v ls/\ls.length=ks.length/\(∀i,i<ls.length->klen ls i=klen ls 0)/\runQ (q.map (λa=>(false,a))++T) ks n=runQ T ls (n+q.length)/\∀f,loopS (f+q.length) ks n=loopS f ls (n+q.length)
 | [],ks,n,h,hq=>by
  refine⟨ks,h,rfl,λi hi=>?_,rfl,λf=>rfl⟩;have h1:=juo _ _ hq i (Nat.zero_le _) (by omega);have h2:=(h.lens 0 i (Nat.zero_le _) hi).2;show(klog ks i).length=(klog ks 0).length;unfold klen at h1;omega
 | a::q,ks,n,h,hq=>by
  obtain⟨ms,h1,h2,h3,h4,h5⟩:=jnt h hq;obtain⟨ls,k1,k2,k3,k4,k5⟩:=jea T q ms (n+1) h2 h4;refine⟨ls,k1,k2.trans h3,k3,?_,λf=>?_⟩
  ·rw[List.map_cons,List.cons_append];rw[jcj (show stepQ ks (false,a)=some ms from h1)];rw[show n+(a::q).length=n+1+q.length by simp;omega];exact k4
  ·rw[show f+(a::q).length=(f+q.length)+1 by simp;omega];rw[j97 h5];rw[show n+(a::q).length=n+1+q.length by simp;omega];exact k5 f
theorem jcv {ks:List Key}{j:Nat}(h:kdone ks j=kdone ks (j+1)):tellN ks j=none:=by
 unfold tellN;rw[if_neg (λhc=>hc.2 h)]
theorem jhr {ks:List Key}(h:∀i,i<ks.length->klen ks i=klen ks 0)(b:Nat):passN ks b=none:=by
 unfold passN;rw[if_neg];intro hc;exact hc.2 ((h b (by omega)).trans (h (b+1) hc.1).symm)
theorem j9q {v:Int}:∀(k:Nat)(ks:List Key)(n:Nat),VP v ks->k<=ks.length-1->(∀i,i<ks.length->klen ks i=klen ks 0)->(∀j,k<=j->j<ks.length-1->kdone ks j=kdone ks (j+1)) ->
  ∃ls c,VP v ls/\ls.length=ks.length/\c<=k/\(∀i,i<ls.length->klen ls i=klen ls 0)/\(∀j,j<ls.length-1->kdone ls j=kdone ls (j+1))/\runQ ((downs k).map (λa=>(true,a))) ks n=(ls,n+c)/\∀f,loopS (f+c+1) ks n=(ls,n+c)
 | 0,ks,n,h,_,hl,hd=>by
  refine⟨ks,0,h,rfl,Nat.le_refl _,hl,λj hj=>hd j (Nat.zero_le _) hj,rfl,λf=>?_⟩;have:stepS ks=none:=by
   unfold stepS;rw[j4a _ _ λb _ _=>jhr hl b];exact j5e _ λb hb=>jcv (hd b (Nat.zero_le _) hb)
  rw[je6 this];rfl
 | k+1,ks,n,h,hk,hl,hd=>by
  by_cases e:kdone ks k=kdone ks (k+1)
  ·obtain⟨ls,c,k1,k2,k3,k4,k5,k6,k7⟩:=j9q k ks n h (by omega) hl λj hj hj2=>by
    by_cases e2:j=k
    ·rw[e2];exact e
    ·exact hd j (by omega) hj2
   refine⟨ls,c,k1,k2,by omega,k4,k5,?_,k7⟩;unfold downs;rw[List.map_cons];rw[ji0 (show stepQ ks (true,k)=none from jcv e)];exact k6
  ·have ht:tellN ks k=some (ks.set k (kid ks k,klog ks k,kdone ks (k+1))):=by
    unfold tellN;rw[if_pos ⟨by omega,e⟩]
   have hs:stepS ks=some (ks.set k (kid ks k,klog ks k,kdone ks (k+1))):=by
    unfold stepS;rw[j4a _ _ λb _ _=>jhr hl b];exact j70 _ k (by omega) (λb hb hb2=>jcv (hd b (by omega) hb2)) ht
   have hkat:∀j,kat (ks.set k (kid ks k,klog ks k,kdone ks (k+1))) j=if k=j then(kid ks k,klog ks k,kdone ks (k+1))else kat ks j:=λj=>jfd j (by omega)
   have hkl:∀j,klen (ks.set k (kid ks k,klog ks k,kdone ks (k+1))) j=klen ks j:=λj=>by
    unfold klen klog;rw[hkat];split
    ·rename_i e2;subst e2;rfl
    ·rfl
   have hkd:∀j,kdone (ks.set k (kid ks k,klog ks k,kdone ks (k+1))) j=if k=j then kdone ks (k+1)else kdone ks j:=λj=>by
    unfold kdone;rw[hkat];split<;>rfl
   obtain⟨ls,c,k1,k2,k3,k4,k5,k6,k7⟩:=j9q k (ks.set k (kid ks k,klog ks k,kdone ks (k+1))) (n+1) (h.tell ht) (by rw[List.length_set];omega) (by
    intro i hi;rw[hkl,hkl];exact hl i (by simpa using hi)) (by
    intro j hj hj2;rw[List.length_set]at hj2;rw[hkd,hkd,if_neg (show¬k=j+1 by omega)];split
    ·rename_i e2;rw[e2]
    ·exact hd j (by omega) hj2)
   refine⟨ls,c+1,k1,by rw[k2,List.length_set],by omega,k4,k5,?_,λf=>?_⟩
   ·unfold downs;rw[List.map_cons];rw[jcj (show stepQ ks (true,k)=_ from ht)];rw[show n+(c+1)=n+1+c by omega];exact k6
   ·rw[show f+(c+1)+1=(f+c+1)+1 by omega];rw[j97 hs,show n+(c+1)=n+1+c by omega];exact k7 f
theorem j51 {v:Int}{ks:List Key}(h:VP v ks):settleS ks=settleK ks/\VP v (settleK ks).1/\quietK (settleK ks).1=true/\(settleK ks).2<=64:=by
 obtain⟨ls,k1,k2,k3,k4,k5⟩:=jea ((downs (ks.length-1)).map (λa=>(true,a))) (qP ks) ks 0 h rfl;obtain⟨rs,c,r1,r2,r3,r4,r5,r6,r7⟩:=j9q (ks.length-1) ls (0+(qP ks).length) k1 (by omega) k3 (by intro j hj hj2;omega);have hs:settleK ks=(rs,0+(qP ks).length+c):=by
  unfold settleK queueK;rw[k4,r6]
 have hq:(qP ks).length<=60:=by
  have h1:(qP ks).length<=ks.length*klen ks 0:=jr2 _ _;have h2:=h.2.1.2;have h3:klen ks 0<=12:=(h.log 0 (by have:=h.2.1;omega)).2;have h4:=Nat.mul_le_mul h2 h3;omega
 have hlen:=h.2.1;refine⟨?_,?_,?_,?_⟩
 ·rw[hs];unfold settleS;have:=k5 (101-(qP ks).length);rw[show 101-(qP ks).length+(qP ks).length=101 by omega]at this;rw[this,show 101-(qP ks).length=(100-(qP ks).length-c)+c+1 by omega];exact r7 _
 ·rw[hs];exact r1
 ·rw[hs];have hd:∀i,i<rs.length->kdone rs (rs.length-1-i)=(klen rs 0:Nat):=by
   intro i;induction i with
   | zero=>
    intro hi;rw[Nat.sub_zero,r1.2.2.2];have:=r4 (rs.length-1) (by omega);show((klen rs (rs.length-1):Nat):Int)=_;rw[this]
   | succ i ih=>
    intro hi;rw[r5 _ (by omega),show rs.length-1-(i+1)+1=rs.length-1-i by omega];exact ih (by omega)
  simp only[quietK,decide_eq_true_eq];intro i hi;refine⟨r4 i hi,?_⟩;have:=hd (rs.length-1-i) (by omega);rwa[show rs.length-1-(rs.length-1-i)=i by omega]at this
 ·rw[hs];dsimp only;omega
open Lib (hid)
theorem okS {ns:List Nd}{view:Int}(h:chainOk view ns=true):ns.length<=1099511627776/\Short ns 1099511627776/\1<=ns.length/\ns.length<=5/\∀i,i<ns.length->(nd ns i).us.length<=12:=by
 have h1:=(j1c.1 h).2.1;have h2:=jb6 h;exact⟨by omega,λn hn=>Nat.le_trans (h2.2 n hn) (by omega),h1.1,h1.2,λi hi=>h2.2.at hi⟩
theorem jiu (x y r z:Res)(A:List Res):(x::y::r::z::A).Perm (x::y::z::(A++[r])):=by
 refine List.Perm.cons _ (List.Perm.cons _ ?_);exact(List.perm_append_comm (l₁:=[r]) (l₂:=z::A))
theorem j32 (view:Int)(a:Option Addr)(cap:Nat)(ns:List Nd)(w:World)(hm:ns.length<=5)(hs:∀i,i<ns.length->(nd ns i).us.length<=12)(hx:NodesAt w a ns) :
  Calls tnp 114 #[.agg #[.int .i64 view,.slice a ns.length cap]] w λe w'=>∃g ms,e=.returned (.agg #[.int .i64 view,.slice (some ⟨g,0,none⟩) ns.length ns.length])/\keys ms=keys ns/\ms.length=ns.length/\St w w' (row (.slice (some ⟨g,0,none⟩) ns.length ns.length) 60 3 ns.length (ncells ms)::nds ms):=by
 have s0:=((St.start w).alloc (.cells #[.int .i64 view,.slice a ns.length cap] 34)).allocAt (.cells #[.int .i64 0,.slice none 0 0] 34) (w.heap.size+1) (by simp);obtain⟨ht,i,z,hi,hz,hsize,hby,hzs,hsz⟩:=j3m;have MK:=hid (λw2:World=>run_makeSlice_full (P:=tnp) w2 w2.heap.size 32 60 i z 3 ht hi hz hsize .i64 .i64 ns.length (by omega) (by rw[hby];omega) (by unfold maxLen;omega) (Nat.le_refl _));generalize(madeCells z.cells (ns.length*3))=cs0 at *;clear hi hz hsize hby hzs hsz ht;go_enter Twn.func114,Tryz.ntmps114
 go_upto_region 1 with fail
 go_cut [3] (λs3 wx=>∃O G,s3=.pointer (some ⟨O,0,none⟩)/\∃cs,St w wx (box O #[.int .i64 view,.slice (some ⟨G,0,none⟩) ns.length ns.length] 34::row (.slice (some ⟨G,0,none⟩) ns.length ns.length) 60 3 ns.length cs::box (w.heap.size+1) #[.int .i64 0,.slice none 0 0] 34::box w.heap.size #[.int .i64 view,.slice a ns.length cap] 34::[]))
 case first=>
  generalize(w.alloc (.cells #[.int .i64 view,.slice a ns.length cap] 34 (0,0))).alloc (.cells #[.int .i64 0,.slice none 0 0] 34 (0,0))=w1 at *;obtain⟨S,hS⟩:=Mix.named (λw'=>w'.cell? ⟨w.heap.size,0,none⟩=some (.int .i64 view)/\w'.cell? ⟨w.heap.size,1,none⟩=some (.slice a ns.length cap));have HS:=hid hS;have e0:=Mix.held_cell (λw h=>((hS w).1 h).1);have e1:=Mix.held_cell (λw h=>((hS w).1 h).2);clear hS;have SO:=hid (λW rr (hr:box w.heap.size #[.int .i64 view,.slice a ns.length cap] 34∈rr) (s:St w W rr)=>by
   have a0:=cell_of_heap (o:=0) (s.pull hr).boxAt;have a1:=cell_of_heap (o:=1) (s.pull hr).boxAt;simp at a0 a1;exact(HS.out W).2 ⟨a0,a1⟩)
  have s1:=s0.drew;refine Mix.start S 8 (by kernel_rfl) ?_;refine Mix.take [0,1,2,3,4] 4 (by kernel_rfl) (by kernel_rfl) (by kernel_rfl) (by intro c a a' w e h;exact⟨e.symm.trans h.1,h.2⟩) (SO.out _ _ (by simp) s1) ?_;intro hne;simp only[Mix.pickOps,List.filterMap_cons,List.filterMap_nil,List.getElem?_toArray,List.getElem?_cons_zero,List.getElem?_cons_succ];repeat (refine Mix.cons_form ?_;go_big_quiet_step (fail))
  refine wpQuiet_nil ?_;clear hne;generalize w1.drew=wd at *;refine Mix.fork (i:=5) (j:=7) (by kernel_rfl) rfl rfl rfl rfl ?_ ?_
  ·obtain⟨wm,hr,ho,hg⟩:=MK.out wd;have s2:=s1.add hg (j75 ho) (λb hb=>by cases hb;exact ho.lt _ rfl);go_simp;refine And.intro (SO.out _ _ (by simp) s2) ?_;clear hr ho hg s1;refine Mix.take [6] 2 (by kernel_rfl) (by kernel_rfl) (by kernel_rfl) (by intro c a a' w e h;exact⟨e.symm.trans h.1,h.2⟩) (SO.out _ _ (by simp) s2) ?_;intro hne;simp only[Mix.pickOps,List.filterMap_cons,List.filterMap_nil,List.getElem?_toArray,List.getElem?_cons_zero,List.getElem?_cons_succ];repeat (refine Mix.cons_form ?_;go_big_quiet_step (fail))
   refine wpQuiet_nil ?_;clear hne;refine Mix.step (i:=7) (by kernel_rfl) rfl rfl ?_;have s3:=s2.alloc (.cells #[.int .i64 0,.slice none 0 0] 34);go_simp;refine And.intro (SO.out _ _ (by simp) s3) ?_;refine Mix.step (i:=8) (by kernel_rfl) rfl rfl ?_;obtain⟨c3,f3⟩:=s3.cells;go_simp;have FIN:Hid (St w (wm.alloc (.cells #[.int .i64 view,.slice (some ⟨wd.heap.size,0,none⟩) ns.length ns.length] 34)) (box wm.heap.size #[.int .i64 view,.slice (some ⟨wd.heap.size,0,none⟩) ns.length ns.length] 34::_)):=hid (s2.alloc _);clear s2 s3;refine Mix.done (by kernel_rfl) ?_;go_wp2_with fail
   go_meet
   exact⟨_,_,rfl,_,FIN.out⟩
  ·have s2:=s1.alloc (.cells #[.int .i64 0,.slice none 0 0] 34);go_simp;refine And.intro (SO.out _ _ (by simp) s2) ?_;refine Mix.step (i:=5) (by kernel_rfl) rfl rfl ?_;obtain⟨wm,hr,ho,hg⟩:=MK.out (wd.alloc (.cells #[.int .i64 0,.slice none 0 0] 34));have s3:=(s2.add hg (j75 ho) (λb hb=>by cases hb;exact ho.lt _ rfl)).at1;go_simp;refine And.intro (SO.out _ _ (by simp) s3) ?_;clear hr ho hg s1 s2;refine Mix.step (i:=6) (by kernel_rfl) rfl rfl ?_;go_simp;refine And.intro (SO.out _ _ (by simp) s3) ?_;refine Mix.step (i:=8) (by kernel_rfl) rfl rfl ?_;obtain⟨c3,f3⟩:=s3.cells;go_simp;have s4:=(s3.set 0 (.int .i64 view)).set 1 (.slice (some ⟨wd.heap.size+1,0,none⟩) ns.length ns.length);simp only[World.size_alloc]at s4;have FIN:=hid s4;clear s3 s4;refine Mix.done (by kernel_rfl) ?_;go_wp2_with fail
   go_meet
   exact⟨_,_,rfl,_,FIN.out⟩
 case rest=>
  clear s0;obtain⟨O,G,rfl,cs0,s0⟩:=hcut;obtain⟨c0,_⟩:=s0.at3.cells;go_wp2_with fail
  clear c0
  go_loopw [16] (λi wr=>∃(k:Nat) (cs:List Value) (ms:List Nd),k<=ns.length/\i=.int .i64 k/\cs.take (k*3)=ncells ms/\keys ms=keys (ns.take k)/\St w wr (box O #[.int .i64 view,.slice (some ⟨G,0,none⟩) ns.length ns.length] 34::row (.slice (some ⟨G,0,none⟩) ns.length ns.length) 60 3 ns.length cs::box (w.heap.size+1) #[.int .i64 0,.slice none 0 0] 34::nds ms)) (λi _=>ns.length-(intOf i).toNat)
  case atStart=>exact⟨0,cs0,[],Nat.zero_le _,rfl,rfl,by simp,s0.take _ [box w.heap.size #[.int .i64 view,.slice a ns.length cap] 34] rfl⟩
  case round=>
   clear s0;obtain⟨k,cs,ms,hk,rfl,ht,hkey,s1⟩:=hrel;have hl:=s1.drop.own.1;have HK:=hid hkey;clear hkey;by_cases hlt:k<ns.length
   ·obtain⟨b,off,rfl,c0,c1,c2⟩:=(hx.below s1.below).cells k hlt;have UX:=hid (λW (h:Below w.heap.size w W)=>((hx.2.below h).at hlt).1);have hul:=hs k hlt;have HT:=hid (λm=>jtj (m:=m) (k:=k) (by omega) ht);have SN:Hid (keys (ns.take (k+1))=keys (ns.take k)++[keyOf (nd ns k)]):=hid (by rw[List.take_succ_eq_append_getElem hlt,j2u,j3o hlt];rfl);have i1:(0:Int)<=(k:Int):=by omega
    have i2:(k:Int)<(ns.length:Int):=by omega
    clear ht;rcases hN:nd ns k with⟨p,y,c,us,q⟩;rw[hN]at c0 c1 c2 hul UX SN;dsimp only at c0 c1 c2 hul UX;clear hN;have s2:=s1.alloc (.cells #[.int .i64 p,.slice y us.length c,.int .i64 q] 60);go_wp2_with fail
    generalize wr.alloc (.cells #[.int .i64 p,.slice y us.length c,.int .i64 q] 60 (0,0))=w5 at *;generalize wr.heap.size=B at *;clear s1 c0 c1 c2;obtain⟨S,hS⟩:=Mix.named (λw'=>w'.cell? ⟨O,1,none⟩=some (.slice (some ⟨G,0,none⟩) ns.length ns.length)/\w'.cell? ⟨B,0,none⟩=some (.int .i64 p)/\w'.cell? ⟨B,1,none⟩=some (.slice y us.length c)/\w'.cell? ⟨B,2,none⟩=some (.int .i64 q));have HS:=hid hS;have e0:=Mix.held_cell (λw h=>((hS w).1 h).1);have e1:=Mix.held_cell (λw h=>((hS w).1 h).2.1);have e2:=Mix.held_cell (λw h=>((hS w).1 h).2.2.1);have e3:=Mix.held_cell (λw h=>((hS w).1 h).2.2.2);clear hS;have SO:=hid (λW rr (hr:box O #[.int .i64 view,.slice (some ⟨G,0,none⟩) ns.length ns.length] 34∈rr) (hr2:boxo B (.cells #[.int .i64 p,.slice y us.length c,.int .i64 q] 60 (0,0))∈rr) (s:St w W rr)=>by
     have a0:=cell_of_heap (o:=1) (s.pull hr).boxAt;have a1:=cell_of_heap (o:=0) (s.pull hr2).boxAt;have a2:=cell_of_heap (o:=1) (s.pull hr2).boxAt;have a3:=cell_of_heap (o:=2) (s.pull hr2).boxAt;simp at a0 a1 a2 a3;exact(HS.out W).2 ⟨a0,a1,a2,a3⟩)
    have s6:=s2.drew;refine Mix.start S 6 (by kernel_rfl) ?_;refine Mix.take [0,1,2,3] 3 (by kernel_rfl) (by kernel_rfl) (by kernel_rfl) (by intro c a a' w e h;exact⟨e.symm.trans h.1,h.2⟩) (SO.out _ _ (by simp) (by simp) s6) ?_;intro hne;simp only[Mix.pickOps,List.filterMap_cons,List.filterMap_nil,List.getElem?_toArray,List.getElem?_cons_zero,List.getElem?_cons_succ];repeat (refine Mix.cons_form ?_;go_big_quiet_step (fail))
    refine wpQuiet_nil ?_;clear hne;generalize w5.drew=wd at *;refine Mix.step (i:=4) (by kernel_rfl) rfl rfl ?_;go_simp;refine(j3i p q y c us _ (by omega) (UX.out _ s6.below)).mono ?_;rintro e w6 ⟨gl,rfl,ss⟩;have s7:=s6.join ss;simp only[List.cons_append,List.nil_append]at s7;refine And.intro (SO.out _ _ (by simp) (by simp) s7) ?_;go_simp;clear s2 s6 ss;refine Mix.take [5] 1 (by kernel_rfl) (by kernel_rfl) (by kernel_rfl) (by intro c a a' w e h;exact⟨e.symm.trans h.1,h.2⟩) (SO.out _ _ (by simp) (by simp) s7) ?_;intro hne;simp only[Mix.pickOps,List.filterMap_cons,List.filterMap_nil,List.getElem?_toArray,List.getElem?_cons_zero,List.getElem?_cons_succ];repeat (refine Mix.cons_form ?_;go_big_quiet_step (fail))
    refine wpQuiet_nil ?_;clear hne;refine Mix.step (i:=6) (by kernel_rfl) rfl rfl ?_;have s8:=s7.at3;have cd:=s8.own.cellAt (k*3) (by omega);have ce:=s8.own.cellAt (k*3+1) (by omega);have cf:=s8.own.cellAt (k*3+2) (by omega);have fd:=s8.own.frozenAt (k*3);have fe:=s8.own.frozenAt (k*3+1);have ff:=s8.own.frozenAt (k*3+2);rw[List.getElem?_eq_getElem (by omega)]at cd ce cf;have s9:=((s8.rowSet (k*3) (.int .i64 p)).rowSet (k*3+1) (.slice (some ⟨gl,0,none⟩) us.length us.length)).rowSet (k*3+2) (.int .i64 q);go_simp;refine Mix.done (by kernel_rfl) ?_;have s10:=s9.at2.drop.at2.perm (jiu _ _ _ _ _);have FIN:=hid s10;clear s10 s7 s8 s9 cd ce cf fd fe ff;go_wp2_with fail
    go_roundw
    case rel=>exact⟨k+1,_,ms++[⟨p,some ⟨gl,0,none⟩,us.length,us,q⟩],hlt,by go_num,HT.out (⟨p,some ⟨gl,0,none⟩,us.length,us,q⟩:Nd),by rw[SN.out,<- HK.out];simp[keys,keyOf],by
     have F:=FIN.out;rw[jat];exact F⟩
    case measure=>simp[intOf];omega
   ·have ek:ns.take k=ns:=List.take_of_length_le (by omega);rw[ek]at HK;have hml:ms.length=ns.length:=by rw[<- j17 ms,HK.out,j17]
    rw[List.take_of_length_le (by omega)]at ht;subst ht;obtain⟨c9,_⟩:=s1.cells;obtain⟨d9,f9⟩:=s1.at2.cells;have s2:=(s1.at2.set 0 (.int .i64 view)).set 1 (.slice (some ⟨G,0,none⟩) ns.length ns.length);have q2:=s2.cells.1;have FIN:=hid s2.drop.drop;have HML:=hid hml;clear s1 s2 hml hl;go_wp2_with fail
    exact bodyPost_ret (v:=.agg #[.int .i64 view,.slice (some ⟨G,0,none⟩) ns.length ns.length]) (by simp[results,Tryz.results114,go_sem,q2]) rfl ⟨G,ms,rfl,HK.out,HML.out,FIN.out⟩
def linkOk (at_:Int)(n:Nat):Bool:=decide (0<=at_/\at_+1<n)
theorem j9x (view:Int)(a:Option Addr)(cap:Nat)(ns:List Nd)(at_:Int)(w:World)(hv:chainOk view ns=true)(hx:NodesAt w a ns) :
  Calls tnp 115 #[.agg #[.int .i64 view,.slice a ns.length cap],.int .i64 at_] w λe w'=>e=.returned (.bool (linkOk at_ ns.length))/\Below w.heap.size w w':=by
 obtain⟨hm,hs,h1,h5,_⟩:=okS hv;have s0:=(St.start w).alloc (.cells #[.int .i64 view,.slice a ns.length cap] 34);have HV:=hid hv;clear hv;go_enter Twn.func115,Tryz.ntmps115
 go_wp2_with fail
 refine(jz _ _ _ _ _ hm hs (hx.below s0.below)).mono ?_;rw[HV.out];rintro e w1 ⟨rfl,hb⟩;have s1:=s0.call hb;obtain⟨c1,_⟩:=s1.cells;clear s0 hb;by_cases h2:0<=at_
 ·by_cases h3:at_+1<ns.length
  ·have F:Hid (linkOk at_ ns.length=true):=hid (by simp[linkOk];omega);have h4:at_<(ns.length:Int)-1:=by omega
   go_wp2_with fail
   go_ret
   exact⟨by rw[F.out];rfl,s1.below⟩
  ·have F:Hid (linkOk at_ ns.length=false):=hid (by simp[linkOk];omega);have h4:decide (at_<(ns.length:Int)-1)=false:=by simp;omega
   go_wp2_with fail
   go_ret
   exact⟨by rw[F.out];rfl,s1.below⟩
 ·have F:Hid (linkOk at_ ns.length=false):=hid (by simp[linkOk];omega);go_wp2_with fail
  go_ret
  exact⟨by rw[F.out];rfl,s1.below⟩
def GaveO (w:World)(view:Int)(o:Option (List Key)):Ending->World->Prop:=match o with
 | some ks=>GaveChain w view ks true
 | none=>GaveChain w 0 [] false
theorem j2d {w:World}{view:Int}{o:Option (List Key)}{ks:List Key}(h:o=some ks){e:Ending}{w':World}(hg:GaveChain w view ks true e w'):GaveO w view o e w':=by subst h;exact hg
theorem j1n {w:World}{view:Int}{o:Option (List Key)}(h:o=none){e:Ending}{w':World}(hg:GaveChain w 0 [] false e w'):GaveO w view o e w':=by subst h;exact hg
theorem gaveSome {w w':World}{num:Int}{ks:List Key}{ns:List Nd}{v:Value}{X:List Res}{n:Nat}(h:St w w' (row v 60 3 n (ncells ns)::(nds ns++X)))(hl:n=ns.length)(hk:keys ns=ks):GaveChain w num ks true (.returned (.tuple #[.agg #[.int .i64 num,v],.bool true])) w':=by
 subst hl;exact gaveChain h rfl hk rfl
theorem j6h {ms ns:List Nd}(h:keys ms=keys ns)(k:Nat)(n:Nd):keys (ms.set k n)=(keys ns).set k (keyOf n):=by
 rw[<- h];simp[keys,List.map_set]
theorem jb0 {ks:List Key}(k:Nat):tellK ks (k:Int)=tellN ks k:=by simp[tellK]
theorem jic {ks:List Key}{x:Int}(h:linkOk x ks.length=false):tellK ks x=none:=by
 unfold tellK tellN;simp[linkOk]at h;split
 ·rw[if_neg];intro hc;have:=h (by assumption);omega
 ·rfl
theorem j5r (view:Int)(a:Option Addr)(cap:Nat)(ns:List Nd)(at_:Int)(w:World)(hv:chainOk view ns=true)(hx:NodesAt w a ns) :
  Calls tnp 100 #[.agg #[.int .i64 view,.slice a ns.length cap],.int .i64 at_] w (GaveO w view (tellK (keys ns) at_)):=by
 have s0:=((St.start w).alloc (.cells #[.int .i64 view,.slice a ns.length cap] 34)).allocAt (.cells #[.int .i64 0,.slice none 0 0] 34) (w.heap.size+1) (by simp);obtain⟨hm,hs,h1,h5,hl⟩:=okS hv;have LA:=hid (λW (h:Below w.heap.size w W)=>j9x view a cap ns at_ W hv (hx.below h));clear hv;cases hk:linkOk at_ ns.length with
 | false=>
  have FO:=hid (jic (ks:=keys ns) (x:=at_) (by rw[j17];exact hk));rw[hk]at LA;clear hk;go_enter Twn.func100,Tryz.ntmps100
  go_wp2_with fail
  generalize(w.alloc (.cells #[.int .i64 view,.slice a ns.length cap] 34 (0,0))).alloc (.cells #[.int .i64 0,.slice none 0 0] 34 (0,0))=w1 at *;obtain⟨x0,_⟩:=s0.drop.cells;have k0:=x0 0;have k1:=x0 1;simp at k0 k1;have g0:=jf k0;have g1:=jf k1;have HG:=hid (λx:Grown w1=>s0.call (j1b x));have LB:=hid (λx:Grown w1=>LA.out (grow w1 x) (HG.out x).below);clear LA k0 k1 x0;refine jm (by kernel_rfl) (by kernel_rfl) ?_;repeat (go_big_quiet_step (((go_at_call 115;exact Calls.grow_of (LB.out _)))))
  refine wpQuiet_nil ?_;rintro _ ⟨x,rfl⟩;have s1:=HG.out x;clear g0 g1 HG LB s0;generalize grow w1 x=w2 at *;obtain⟨c1,f1⟩:=s1.cells;have s2:=(s1.set 0 (.int .i64 0)).set 1 (.slice none 0 0);have q2:=s2.cells.1;have FIN:=hid (j1n (view:=view) FO.out (gaveNone s2 rfl rfl rfl));clear s1 s2;go_wp2_with fail
  exact bodyPost_ret (v:=.tuple #[.agg #[.int .i64 0,.slice none 0 0],.bool false]) (by simp[results,Tryz.results100,go_sem,q2]) rfl FIN.out
 | true=>
  obtain⟨k,rfl⟩:∃k:Nat,at_=k:=⟨at_.toNat,by simp[linkOk]at hk;omega⟩;have hk1:k+1<ns.length:=by simp[linkOk]at hk;omega
  rw[hk]at LA;have FK:=hid (jb0 (ks:=keys ns) k);have TK:Hid (tellN (keys ns) k=if kdone (keys ns) k≠kdone (keys ns) (k+1)then some ((keys ns).set k (kid (keys ns) k,klog (keys ns) k,kdone (keys ns) (k+1)))else none):=hid (by
   unfold tellN;rw[j17];simp only[hk1,true_and])
  clear hk;obtain⟨m,hkm⟩:∃m,k+1=m:=⟨_,rfl⟩;rw[hkm]at TK hk1;have em:(k:Int)+1=(m:Int):=by omega
  have hk0:k<ns.length:=by omega
  have i1:(0:Int)<=(k:Int):=by omega
  have i2:(k:Int)<(ns.length:Int):=by omega
  have j1:(0:Int)<=(m:Int):=by omega
  have j2:(m:Int)<(ns.length:Int):=by omega
  obtain⟨b,off,rfl,p0,p1,p2⟩:=(hx.below s0.below).cells k hk0;obtain⟨b',off',e',r0,r1,r2⟩:=(hx.below s0.below).cells m hk1;cases e';have CC:=hid (λW (h:Below w.heap.size w W)=>j32 view (some ⟨b,off,none⟩) cap ns W h5 hl (hx.below h));have DK:Hid (kdone (keys ns) k=(nd ns k).done):=hid (by unfold kdone;rw[j25];rfl);have DM:Hid (kdone (keys ns) m=(nd ns m).done):=hid (by unfold kdone;rw[j25];rfl);have ND:=hid (λms (h:keys ms=keys ns)=>(j4r h k));have ND2:=hid (λms (h:keys ms=keys ns)=>(j4r h m));rw[DK.out,DM.out]at TK;generalize hd1:(nd ns k).done=d1 at *;generalize hd2:(nd ns m).done=d2 at *;go_enter Twn.func100,Tryz.ntmps100
  go_wp2_with fail
  generalize(w.alloc (.cells #[.int .i64 view,.slice (some ⟨b,off,none⟩) ns.length cap] 34 (0,0))).alloc (.cells #[.int .i64 0,.slice none 0 0] 34 (0,0))=w1 at *;obtain⟨x0,_⟩:=s0.drop.cells;have k0:=x0 0;have k1:=x0 1;simp at k0 k1;have g0:=jf k0;have g1:=jf k1;have g2:=jf p2;have g3:=jf r2;have HG:=hid (λx:Grown w1=>s0.call (j1b x));have LB:=hid (λx:Grown w1=>LA.out (grow w1 x) (HG.out x).below);clear LA k0 k1 x0 p0 p1 p2 r0 r1 r2;by_cases hne:d1=d2
  ·have FO:Hid (tellK (keys ns) (k:Int)=none):=hid (by rw[FK.out,TK.out,if_neg (by simp[hne])]);subst hne;refine jm (by kernel_rfl) (by kernel_rfl) ?_;repeat (go_big_quiet_step (((go_at_call 115;exact Calls.grow_of (LB.out _)))))
   refine wpQuiet_nil ?_;rintro _ ⟨x,rfl⟩;have s1:=HG.out x;clear g0 g1 g2 g3 HG LB s0;generalize grow w1 x=w2 at *;obtain⟨c1,f1⟩:=s1.cells;have s2:=(s1.set 0 (.int .i64 0)).set 1 (.slice none 0 0);have q2:=s2.cells.1;have FIN:=hid (j1n (view:=view) FO.out (gaveNone s2 rfl rfl rfl));clear s1 s2;go_wp2_with fail
   exact bodyPost_ret (v:=.tuple #[.agg #[.int .i64 0,.slice none 0 0],.bool false]) (by simp[results,Tryz.results100,go_sem,q2]) rfl FIN.out
  ·have FO:=hid (FK.out.trans (TK.out.trans (if_pos hne)));have hne':(d1==d2)=false:=by simp[hne]
   refine jm (by kernel_rfl) (by kernel_rfl) ?_;repeat (go_big_quiet_step (((go_at_call 115;exact Calls.grow_of (LB.out _)))))
   refine wpQuiet_nil ?_;rintro _ ⟨x,rfl⟩;have s1:=HG.out x;clear g0 g1 g2 g3 HG LB s0;generalize grow w1 x=w2 at *;obtain⟨c1,_⟩:=s1.drop.cells;go_wp2_with fail
   refine(CC.out _ s1.below).mono ?_;rintro e w3 ⟨G,ms,rfl,hkey,hml,ss⟩;have s2:=s1.join ss;simp only[List.cons_append]at s2;have NK:=ND.out ms hkey;have NM:=ND2.out ms hkey;have s3:=(s2.alloc (.cells #[.int .i64 view,.slice (some ⟨G,0,none⟩) ns.length ns.length] 34)).at1;have hkl:k<ms.length:=by omega
   have hml2:m<ms.length:=by omega
   have z1:=s3.own.cellAt (k*3+2) (by omega);have z2:=s3.own.cellAt (m*3+2) (by omega);rw[(j2a ms k hkl).2.2,NK.2.2]at z1;rw[(j2a ms m hml2).2.2,NM.2.2]at z2;have f1:=s3.own.frozenAt (k*3+2);obtain⟨c3,_⟩:=s3.drop.cells;have c30:=c3 0;have c31:=c3 1;simp at c30 c31;go_wp2_with fail
   clear c1 c3 ss s1 s2;have s4:=s3.drew.rowSet (k*3+2) (.int .i64 d2);rw[j3f ms k _ hkl]at s4;generalize hW:(w3.alloc (.cells #[.int .i64 view,.slice (some ⟨G,0,none⟩) ns.length ns.length] 34)).drew.setCell ⟨G,k*3+2,none⟩ (.int .i64 d2)=W at s4;have s5:St w W (box w3.heap.size #[.int .i64 view,.slice (some ⟨G,0,none⟩) ns.length ns.length] 34::row (.slice (some ⟨G,0,none⟩) ns.length ns.length) 60 3 ns.length (ncells (ms.set k { nd ms k with done:=d2 }))::(nds (ms.set k { nd ms k with done:=d2 })++(box (w.heap.size+1) #[.int .i64 0,.slice none 0 0] 34::[box w.heap.size #[.int .i64 view,.slice (some ⟨b,off,none⟩) ns.length cap] 34]))):=by
    rw[show nds (ms.set k { nd ms k with done:=d2 })=nds ms from jc8 rfl];exact s4.at1
   obtain⟨cO,cR,fR,qR,t1,q0,t0⟩:=j1u s5;have KE:Hid (keys (ms.set k { nd ms k with done:=d2 })=(keys ns).set k (kid (keys ns) k,klog (keys ns) k,d2)):=hid (by
    rw[j6h hkey];unfold kid klog;rw[j25];simp only[keyOf,NK.1,NK.2.1])
   have FIN:=hid (j2d (view:=view) FO.out (gaveSome t1 (by simp[hml]) KE.out));clear t1 t0 q0 s4 s5 s3
   go_region
   all_goals
    clear hW;go_wp2_with fail
    exact bodyPost_ret (v:=.tuple #[.agg #[.int .i64 view,.slice (some ⟨G,0,none⟩) ns.length ns.length],.bool true]) (by simp[results,Tryz.results100,go_sem,qR]) rfl FIN.out
abbrev hdlQ (t:TypeId):Value:=.pointer (some ⟨7,t,none⟩)
abbrev rtyQ (t:TypeId):Value:=.iface 184 (.agg #[hdlQ t])
abbrev errV (p:Addr):Value:=.iface 212 (.pointer (some p))
theorem typeOfQ (p:Addr)(w:World):(callFunc 142 #[errV p]).run tnp w=.ok (.value (rtyQ 212)) w:=by kernel_rfl
theorem eqlSame (p:Addr)(w:World):(binOp .eql 47 (errV p) (errV p)).run tnp w=.ok (.bool true) w:=by
 obtain⟨i,hi,hc⟩:∃i,tnp.info? 212=some i/\i.comparable=true:=by
  have h:(tnp.info? 212).map TypeInfo.comparable=some true:=by kernel_rfl
  cases hi:tnp.info? 212 with
  | none=>rw[hi]at h;cases h
  | some i=>rw[hi]at h;exact⟨i,rfl,by simpa using h⟩
 exact run_eql_iface_same w 47 212 235 i 0 (by kernel_rfl) (run_typeInfo w hi) hc Twn.underlying212 (by kernel_rfl) p
theorem eqlNil (p:Addr)(w:World):(binOp .eql 47 .nilIface (errV p)).run tnp w=.ok (.bool false) w:=by kernel_rfl
theorem comparableQ (w:World):(callFunc 202 #[.agg #[hdlQ 212]]).run tnp w=.ok (.value (.bool true)) w:=by kernel_rfl
theorem jgz (p:Addr)(w:World):Calls tnp 143 #[errV p,errV p,.bool true] w λe w'=>e=.returned (.bool true)/\w'=w:=by
 go_enter Twn.func143,Tryz.ntmps143
 go_wp2_with fail
 have h1:=eqlSame p;refine wp_loop_rounds 1 ?_;rw[rounds_succ];go_wp2_with fail
 go_ret
 exact⟨rfl,rfl⟩
theorem jfl (n:Nat)(x:Value)(w:World):(method (n+1) 184 (.agg #[x]) "Comparable").run tnp w=.ok (202,.agg #[x]) w:=by kernel_rfl
theorem jf5 (p:Addr)(w:World):Calls tnp 129 #[errV p,errV p] w λe w'=>e=.returned (.bool true)/\w'=w:=by
 have h1:=typeOfQ p;have h2:=comparableQ;have h3:=jfl;go_enter Twn.func129,Tryz.ntmps129
 go_wp2_with fail
 refine(jgz p w).mono ?_;rintro e w1 ⟨rfl,rfl⟩;go_wp2_with fail
 go_ret
 exact⟨rfl,rfl⟩
theorem jgp (p:Addr)(w:World):Calls tnp 129 #[.nilIface,errV p] w λe w'=>e=.returned (.bool false)/\w'=w:=by
 have h1:=eqlNil p;go_enter Twn.func129,Tryz.ntmps129
 go_wp2_with fail
 go_ret
 exact⟨rfl,rfl⟩
def ErrTake (w:World)(p:Addr):Prop:=w.cell? ⟨3,0,none⟩=some (errV p)
theorem ErrTake.below {w w':World}{p:Addr}(h:ErrTake w p)(hb:Below w.heap.size w w'):ErrTake w' p:=by
 unfold ErrTake at h ⊢;rw[hb.cell (p:=⟨3,0,none⟩) (jo h)];exact h
def takeOk (id:Int)(us:List Upd)(done:Int)(k x:Int):Bool:=nodeOk id us done&&updOk (k,x)&&decide (us.length<12)
def takeV (id:Int)(us:List Upd)(done:Int)(k x:Int)(p:Addr):Value:=if takeOk id us done k x=true then .nilIface else errV p
theorem jaz {id:Int}{us:List Upd}{done k x:Int}(p:Addr)(h:takeOk id us done k x=false):takeV id us done k x p=errV p:=by simp[takeV,h]
theorem jib {id:Int}{us:List Upd}{done k x:Int}(p:Addr)(h:takeOk id us done k x=true):takeV id us done k x p=.nilIface:=by simp[takeV,h]
theorem j6a (id done:Int)(a:Option Addr)(cap:Nat)(us:List Upd)(k x:Int)(p:Addr)(w:World)(hm:us.length<=1099511627776)(hx:UpdsAt w a us)(hE:ErrTake w p) :
  Calls tnp 130 #[.agg #[.int .i64 id,.slice a us.length cap,.int .i64 done],.agg #[.int .i64 k,.int .i64 x]] w λe w'=>e=.returned (takeV id us done k x p)/\Below w.heap.size w w':=by
 have s0:=((St.start w).alloc (.cells #[.int .i64 id,.slice a us.length cap,.int .i64 done] 60)).allocAt (.cells #[.int .i64 k,.int .i64 x] 76) (w.heap.size+1) (by simp);go_enter Twn.func130,Tryz.ntmps130
 go_wp2_with fail
 refine(j38 _ _ _ _ _ _ hm (hx.below s0.below)).mono ?_;rintro e w1 ⟨rfl,hb⟩;have s1:=s0.call hb;obtain⟨c1,_⟩:=s1.cells;obtain⟨d1,_⟩:=s1.drop.cells;have E1:w1.cell? ⟨3,0,none⟩=some (errV p):=hE.below s1.below;clear s0 hb;cases hn:nodeOk id us done with
 | false=>
  have F:Hid (takeV id us done k x p=errV p):=hid (jaz p <| by simp[takeOk,hn]);clear hn;go_wp2_with fail
  go_ret
  exact⟨by rw[F.out];rfl,s1.below⟩
 | true=>
  have HN:=hid hn;clear hn;go_wp2_with fail
  refine(j53 _ _ _).mono ?_;rintro e w2 ⟨rfl,hb⟩;have s2:=s1.call hb;obtain⟨c2,_⟩:=s2.cells;obtain⟨d2,_⟩:=s2.drop.cells;have E2:w2.cell? ⟨3,0,none⟩=some (errV p):=hE.below s2.below;clear c1 d1 E1 hb s1;cases hu:updOk (k,x)with
  | false=>
   have F:Hid (takeV id us done k x p=errV p):=hid (jaz p <| by simp[takeOk,hu]);clear hu;go_wp2_with fail
   go_ret
   exact⟨by rw[F.out];rfl,s2.below⟩
  | true=>
   have HU:=hid hu;clear hu;by_cases hl:us.length<12
   ·have F:Hid (takeV id us done k x p=.nilIface):=hid (jib p <| by simp[takeOk,HN.out,HU.out,hl]);have h2:decide ((12:Int)<=(us.length:Int))=false:=by simp;omega
    go_wp2_with fail
    go_ret
    exact⟨by rw[F.out];rfl,s2.below⟩
   ·have F:Hid (takeV id us done k x p=errV p):=hid (jaz p <| by simp[takeOk,HN.out,HU.out];omega);have h2:decide ((12:Int)<=(us.length:Int))=true:=by simp;omega
    go_wp2_with fail
    go_ret
    exact⟨by rw[F.out];rfl,s2.below⟩
theorem jjv (id done:Int)(a:Option Addr)(cap:Nat)(us:List Upd)(k x:Int)(p:Addr)(w:World)(hm:us.length<=1099511627776)(hx:UpdsAt w a us)(hE:ErrTake w p)(hn:takeOk id us done k x=false) :
  Calls tnp 113 #[.agg #[.int .i64 id,.slice a us.length cap,.int .i64 done],.agg #[.int .i64 k,.int .i64 x]] w λe w'=>e=.returned (.tuple #[.agg #[.int .i64 0,.slice none 0 0,.int .i64 0],.bool false])/\Below w.heap.size w w':=by
 have s0:=(((St.start w).alloc (.cells #[.int .i64 id,.slice a us.length cap,.int .i64 done] 60)).allocAt (.cells #[.int .i64 k,.int .i64 x] 76) (w.heap.size+1) (by simp)).allocAt (.cells #[.int .i64 0,.slice none 0 0,.int .i64 0] 60) (w.heap.size+1+1) (by simp);have TC:=hid (λW (h:Below w.heap.size w W)=>j6a id done a cap us k x p W hm (hx.below h) (hE.below h));rw[jaz p hn]at TC;have E0:_:=hE.below s0.below;unfold ErrTake at E0;clear hn;go_enter Twn.func113,Tryz.ntmps113
 go_wp2_with fail
 generalize((w.alloc (.cells #[.int .i64 id,.slice a us.length cap,.int .i64 done] 60 (0,0))).alloc (.cells #[.int .i64 k,.int .i64 x] 76 (0,0))).alloc (.cells #[.int .i64 0,.slice none 0 0,.int .i64 0] 60 (0,0))=w1 at *;obtain⟨c1,_⟩:=s0.drop.cells;obtain⟨d1,_⟩:=s0.drop.drop.cells;have k0:=d1 0;have k1:=d1 1;have k2:=d1 2;have k3:=c1 0;have k4:=c1 1;simp at k0 k1 k2 k3 k4;have g0:=jf k0;have g1:=jf k1;have g2:=jf k2;have g3:=jf k3;have g4:=jf k4;have g5:=jf E0;have HG:=hid (λx:Grown w1=>s0.call (j1b x));have TB:=hid (λx:Grown w1=>TC.out (grow w1 x) (HG.out x).below);clear TC c1 d1 k0 k1 k2 k3 k4 E0;refine jm (by kernel_rfl) (by kernel_rfl) ?_;repeat (go_big_quiet_step (((first|(go_at_call 130;exact Calls.grow_of (TB.out _))|(go_at_call 129;exact Calls.grow_same ((jf5 p _).mono λ_ _ h=>⟨h.1,h.2.symm⟩))))))
 refine wpQuiet_nil ?_;rintro _ ⟨x,rfl⟩;have s1:=HG.out x;clear g0 g1 g2 g3 g4 g5 HG TB s0;generalize grow w1 x=w2 at *;obtain⟨c1,f1⟩:=s1.cells;have s2:=((s1.set 0 (.int .i64 0)).set 1 (.slice none 0 0)).set 2 (.int .i64 0);have q2:=s2.cells.1;have FIN:=hid s2.below;clear s1 s2;go_wp2_with fail
 exact bodyPost_ret (v:=.tuple #[.agg #[.int .i64 0,.slice none 0 0,.int .i64 0],.bool false]) (by simp[results,Tryz.results113,go_sem,q2]) rfl ⟨rfl,FIN.out⟩
theorem jhj (id done:Int)(a:Option Addr)(cap:Nat)(us:List Upd)(k y:Int)(p:Addr)(w:World)(hx:UpdsAt w a us)(hE:ErrTake w p)(hn:takeOk id us done k y=true) :
  Calls tnp 113 #[.agg #[.int .i64 id,.slice a us.length cap,.int .i64 done],.agg #[.int .i64 k,.int .i64 y]] w λe w'=>∃g cap',e=.returned (.tuple #[.agg #[.int .i64 id,.slice (some ⟨g,0,none⟩) (us.length+1) cap',.int .i64 done],.bool true])/\St w w' [row (.slice (some ⟨g,0,none⟩) (us.length+1) cap') 76 2 (us.length+1) (ucells (us++[(k,y)]))]:=by
 have hm:us.length<12:=by simp[takeOk]at hn;exact hn.2
 have s0:=(((St.start w).alloc (.cells #[.int .i64 id,.slice a us.length cap,.int .i64 done] 60)).allocAt (.cells #[.int .i64 k,.int .i64 y] 76) (w.heap.size+1) (by simp)).allocAt (.cells #[.int .i64 0,.slice none 0 0,.int .i64 0] 60) (w.heap.size+1+1) (by simp);have TC:=hid (λW (h:Below w.heap.size w W)=>j6a id done a cap us k y p W (by omega) (hx.below h) (hE.below h));rw[jib p hn]at TC;have CN:=hid (λW (h:Below w.heap.size w W)=>j3i id done a cap us W (by omega) (hx.below h));have E0:_:=hE.below s0.below;unfold ErrTake at E0;clear hn;go_enter Twn.func113,Tryz.ntmps113
 go_wp2_with fail
 generalize((w.alloc (.cells #[.int .i64 id,.slice a us.length cap,.int .i64 done] 60 (0,0))).alloc (.cells #[.int .i64 k,.int .i64 y] 76 (0,0))).alloc (.cells #[.int .i64 0,.slice none 0 0,.int .i64 0] 60 (0,0))=w1 at *;obtain⟨c1,_⟩:=s0.drop.cells;obtain⟨d1,_⟩:=s0.drop.drop.cells;have k0:=d1 0;have k1:=d1 1;have k2:=d1 2;have k3:=c1 0;have k4:=c1 1;simp at k0 k1 k2 k3 k4;have g0:=jf k0;have g1:=jf k1;have g2:=jf k2;have g3:=jf k3;have g4:=jf k4;have g5:=jf E0;have HG:=hid (λx:Grown w1=>s0.call (j1b x));have TB:=hid (λx:Grown w1=>TC.out (grow w1 x) (HG.out x).below);clear TC c1 d1 k0 k1 k2 k3 k4 E0;refine jm (by kernel_rfl) (by kernel_rfl) ?_;repeat (go_big_quiet_step (((first|(go_at_call 130;exact Calls.grow_of (TB.out _))|(go_at_call 129;exact Calls.grow_same ((jgp p _).mono λ_ _ h=>⟨h.1,h.2.symm⟩))))))
 refine wpQuiet_nil ?_;rintro _ ⟨x,rfl⟩;have s1:=HG.out x;clear g0 g1 g2 g3 g4 g5 HG TB s0;generalize grow w1 x=w2 at *;obtain⟨c1,_⟩:=s1.drop.cells;obtain⟨d1,_⟩:=s1.drop.drop.cells;go_wp2_with fail
 refine(CN.out _ s1.below).mono ?_;rintro e w3 ⟨gl,rfl,ss⟩;have s2:=s1.join ss;simp only[List.cons_append,List.nil_append]at s2;have s3:=(s2.alloc (.cells #[.int .i64 id,.slice (some ⟨gl,0,none⟩) us.length us.length,.int .i64 done] 60)).at1;have o3:=s3.own;have lR:=s3.size;obtain⟨c2,_⟩:=s2.at2.cells;have lu:=s2.at2.lt.2;have lr:=s2.at1.lt.2;clear s1 s2 ss c1 d1;go_wp2_with ((at_builtin;refine j36 j5c (by rfl) _ _ (by rfl) w.heap.size (.slice (some ⟨gl,0,none⟩) us.length us.length) us.length (ucells us) (by rfl) (w3.heap.size+1) 1 1 (by rfl) #[.int .i64 k,.int .i64 y] 76 (0,0) (by rfl) (by simp[Value.oneCell']) (by omega) (by omega) (by omega) (jbu w3 _ _) (o3.alloc _) (by simp;omega) ?_);intro gg cap3 w7 hown hgrow hat hl;have s7:=(s3.app (World.grownBy_alloc _ _ none) hown hgrow hat hl).at1;obtain⟨d7,f7⟩:=s7.cells;obtain⟨r7,g7⟩:=s7.at2.cells)
 have s8:=(((((s7.set 1 (.slice (some ⟨gg,0,none⟩) (us.length+1) cap3)).at2).set 0 (.int .i64 id)).set 1 (.slice (some ⟨gg,0,none⟩) (us.length+1) cap3)).set 2 (.int .i64 done));have q8:=s8.cells.1;have FIN:=hid (s8.at2.take [_] _ rfl);clear hown hgrow hat hl o3 s3 s7 s8 d7 r7;exact bodyPost_ret (v:=.tuple #[.agg #[.int .i64 id,.slice (some ⟨gg,0,none⟩) (us.length+1) cap3,.int .i64 done],.bool true]) (by simp[results,Tryz.results113,go_sem,q8]) rfl ⟨gg,cap3,rfl,by simpa[ucells]using FIN.out⟩
end Go.Proofs.T
