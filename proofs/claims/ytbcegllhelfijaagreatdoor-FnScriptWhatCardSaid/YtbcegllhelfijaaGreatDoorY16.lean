/-
  A part of the proof.
-/
import Derived.Deep.RegionHeld3
import Derived.Lib.ItoaNum
import Derived.Test.YtbcegllhelfijaaGreatDoorY15
set_option linter.all false
set_option maxRecDepth 100000
set_option maxHeartbeats 8000000
namespace Go.Proofs.T
namespace Free
section
variable (l:List Oper)(chain:List Nat)(S:Nat->Nat->Value->World->Prop)(a0:Act)
def after (i j:Nat):Bool:=match l[i]? with
 | some o=>o.after.toList.any λe=>Region.binds .any e&&e.on==j
 | none=>false
def dstOf (j:Nat):Option Tmp:=(l[j]?).bind (·.dst)
def writer (t:Tmp):Option Nat:=(List.range l.length).find? λj=>dstOf l j==some t
def Known (k:Nat)(a:Act)(w:World)(i:Nat)(t:Tmp):Prop:=
 match writer l t with
 | none=>a.eval (.tmp t)=a0.eval (.tmp t)
 | some j=>if after l i j then S j k (a.eval (.tmp t)) w else if j==i||after l j i then a.eval (.tmp t)=a0.eval (.tmp t)else True
def okB (n:Nat):Bool:=
 (List.range l.length).all λi=>
  (match l[i]? with
     | some o=>(o.after.all λe=>!Region.binds .any e||decide (e.on<i))&&(match o.dst with|some d=>decide (d<n)|none=>true)
     | none=>true) &&
  (List.range l.length).all λj=>decide (i=j)||dstOf l i==none||dstOf l i != dstOf l j
def chainB:List Nat->Bool
 | []=>true
 | i::r=>decide (i<l.length)&&!r.contains i&&(match r with|[]=>true|j::_=>after l j i)&&chainB r
structure Inv (I:Nat->Act->World->Prop)(listed:Array Bool)(a:Act)(w:World):Prop where
 size:listed.size=l.length
 inv:∃k,k<=chain.length/\I k a w/\(∀c i,chain[c]?=some i->listed.getD i false=decide (c<k)) /\
  ∀j,listed.getD j false=true->∃v,S j k v w/\∀t,dstOf l j=some t->a.eval (.tmp t)=v
 defers:a.defers=a0.defers
 tmps:a.tmps.size=a0.tmps.size
 closed:∀j k,listed.getD j false=true->after l j k=true->listed.getD k false=true
 old:∀t,(∀j,dstOf l j=some t->listed.getD j false=false)->a.eval (.tmp t)=a0.eval (.tmp t)
end
theorem jcy {l:List Oper}{t:Tmp}(h:writer l t=none)(j:Nat):dstOf l j≠some t:=by
 intro e;unfold writer at h;rw[List.find?_eq_none]at h;have hj:j<l.length:=by
  unfold dstOf at e;cases hl:l[j]? with
  | none=>rw[hl]at e;cases e
  | some o=>exact(List.getElem?_eq_some_iff.1 hl).1
 have:=h j (List.mem_range.2 hj);rw[e]at this;simp at this
theorem jkk {l:List Oper}{t:Tmp}{j:Nat}(h:writer l t=some j):dstOf l j=some t:=by
 unfold writer at h;have:=List.find?_some h;simpa using this
theorem jpf {l:List Oper}{t:Tmp}{j:Nat}(e:dstOf l j=some t):j<l.length:=by
 unfold dstOf at e;cases hl:l[j]? with
 | none=>rw[hl]at e;cases e
 | some o=>exact(List.getElem?_eq_some_iff.1 hl).1
theorem j6u {a:Act}{d:Option Tmp}{t:Tmp}{v:Value}(h:d≠some t):(a.put d v).eval (.tmp t)=a.eval (.tmp t):=by
 cases d with
 | none=>rfl
 | some d=>
  have hne:d≠t:=λe=>h (by rw[e]);simp[Act.eval,Act.put,Array.getElem?_setIfInBounds_ne hne]
theorem jf7 {a:Act}{t:Tmp}{v:Value}(h:t<a.tmps.size):(a.put (some t) v).eval (.tmp t)=v:=by
 simp[Act.eval,Act.put,h]
section
variable {P:Program}{l:List Oper}{chain:List Nat}{S:Nat->Nat->Value->World->Prop}{a0:Act}{I:Nat->Act->World->Prop}{R:Nat->World->World->Prop}{Q:Exit->Act->World->Prop}
def Owes (P:Program)(l:List Oper)(S:Nat->Nat->Value->World->Prop)(a0:Act)(I:Nat->Act->World->Prop)(R:Nat->World->World->Prop)(Q:Exit->Act->World->Prop)(i:Nat)(o:Oper)(k n:Nat):Prop:=
 ∀(a:Act) (w:World),I k a w->(∀t,Known l S a0 k a w i t)->∀K:Act->World->Prop,(∀v w',S i n v w'->I n (a.put o.dst v) w'->R i w w'->K (a.put o.dst v) w') ->
  if Region.wanted o (yielded l.toArray a.tmps)=true then o.wp P a w K Q else K (a.put o.dst undef) w
def OwesAll (P:Program)(l:List Oper)(chain:List Nat)(S:Nat->Nat->Value->World->Prop)(a0:Act)(I:Nat->Act->World->Prop)(R:Nat->World->World->Prop)(Q:Exit->Act->World->Prop):Prop:=
 ∀i o,l[i]?=some o->(∀c,chain[c]?=some i->Owes P l S a0 I R Q i o c (c+1)) /\
  (i∉chain->∀k,k<=chain.length->(∀c j,chain[c]?=some j->(after l i j=true->c<k)/\(after l j i=true->k<=c))->Owes P l S a0 I R Q i o k k)
theorem Inv.known {listed:Array Bool}{a:Act}{w:World}{n:Nat}(hok:okB l n=true)(h:Inv l chain S a0 I listed a w){k:Nat}(hnew:∀j,listed.getD j false=true->∃v,S j k v w/\∀t,dstOf l j=some t->a.eval (.tmp t)=v){i:Nat}(hi:i∈Region.ready .any l.toArray listed)(t:Tmp):Known l S a0 k a w i t:=by
 obtain⟨hun,o,ho,hall⟩:=mem_ready.1 hi;have hil:i<l.length:=by simpa using(Array.getElem?_eq_some_iff.1 ho).1
 have hun':listed.getD i false=false:=by
  have:i<listed.size:=by rw[h.size];exact hil
  simp[Array.getD,this]at hun ⊢;exact hun
 unfold Known;split
 ·rename_i hw
  exact h.old t (λj hj=>absurd hj (jcy hw j))
 ·rename_i j hw
  have hd:=jkk hw;have uniq:∀k,dstOf l k=some t->k=j:=λk hk=>by
   unfold okB at hok;rw[List.all_eq_true]at hok;have h1:=hok k (List.mem_range.2 (jpf hk));rw[Bool.and_eq_true,List.all_eq_true]at h1;have h2:=h1.2 j (List.mem_range.2 (jpf hd));rw[hk,hd]at h2;simpa using h2
  split
  ·rename_i ha
   have hj:listed.getD j false=true:=by
    unfold after at ha;rw[show l[i]?=some o by simpa using ho]at ha;simp only[List.any_eq_true]at ha;obtain⟨k,hk,hk2⟩:=ha;simp only[Bool.and_eq_true,beq_iff_eq]at hk2;rw[<- hk2.2];exact hall _ (by simpa using hk) hk2.1
   obtain⟨v,hv,hv2⟩:=hnew j hj;rw[hv2 t hd];exact hv
  ·split
   ·rename_i hc
    have hj:listed.getD j false=false:=by
     simp only[Bool.or_eq_true,beq_iff_eq]at hc;rcases hc with rfl|hc
     ·exact hun'
     ·cases hx:listed.getD j false with
      | false=>rfl
      | true=>rw[h.closed j i hx hc]at hun';cases hun'
    exact h.old t (λk hk=>by rw[uniq k hk];exact hj)
   ·trivial
theorem Inv.step {listed:Array Bool}{a:Act}{w w':World}(hok:okB l a0.tmps.size=true)(h:Inv l chain S a0 I listed a w){k n:Nat}(hnew:∀j,listed.getD j false=true->∃v,S j k v w/\∀t,dstOf l j=some t->a.eval (.tmp t)=v){i:Nat}(hi:i∈Region.ready .any l.toArray listed)
  {v:Value}(hv:S i n v w')(hI:n<=chain.length/\I n (a.put (dstOf l i) v) w'/\∀c j,chain[c]?=some j->(listed.setIfInBounds i true).getD j false=decide (c<n))(hS:∀j v,i≠j->after l j i=false->S j k v w->S j n v w'):Inv l chain S a0 I (listed.setIfInBounds i true) (a.put (dstOf l i) v) w':=by
 obtain⟨hun,o,ho,hall⟩:=mem_ready.1 hi;have ho':l[i]?=some o:=by simpa using ho
 have hil:i<l.length:=(List.getElem?_eq_some_iff.1 ho').1;have hls:i<listed.size:=by rw[h.size];exact hil
 have get:∀j,(listed.setIfInBounds i true).getD j false=if i=j then true else listed.getD j false:=λj=>by
  by_cases hij:i=j
  ·subst hij;simp[hls]
  ·simp[Array.getElem?_setIfInBounds_ne hij,hij]
 have hok':=hok;unfold okB at hok';rw[List.all_eq_true]at hok';have hoki:=hok' i (List.mem_range.2 hil);rw[Bool.and_eq_true,List.all_eq_true]at hoki;have uniq:∀k t,dstOf l i=some t->dstOf l k=some t->k=i:=λk t ht hk=>by
  have h2:=hoki.2 k (List.mem_range.2 (jpf hk));rw[hk,ht]at h2;simp at h2;exact h2.symm
 refine⟨by simp[h.size],⟨n,hI.1,hI.2.1,hI.2.2,?_⟩,?_,?_,?_,?_⟩
 rotate_left
 ·cases dstOf l i<;>exact h.defers
 ·rw[<- h.tmps];cases dstOf l i<;>simp[Act.put]
 ·intro j k hj hk;rw[get]at hj ⊢;split
  ·rfl
  ·by_cases hij:i=j
   ·subst hij;unfold after at hk;rw[ho']at hk;simp only[List.any_eq_true]at hk;obtain⟨x,hx,hx2⟩:=hk;simp only[Bool.and_eq_true,beq_iff_eq]at hx2;rw[<- hx2.2];exact hall _ (by simpa using hx) hx2.1
   ·rw[if_neg hij]at hj;exact h.closed j k hj hk
 ·intro t ht;have hne:dstOf l i≠some t:=λe=>by have:=ht i e;rw[get]at this;simp at this
  rw[j6u hne];refine h.old t λj hj=>?_;have:=ht j hj;rw[get]at this;split at this
  ·cases this
  ·exact this
 ·intro j hj;rw[get]at hj;by_cases hij:i=j
  ·subst hij;refine⟨v,hv,λt ht=>?_⟩;rw[ht];refine jf7 ?_;rw[h.tmps];have h3:=hoki.1;unfold dstOf at ht;rw[ho']at h3 ht;simp only[Option.bind_some]at ht;simp only[ht,Bool.and_eq_true,decide_eq_true_eq]at h3;exact h3.2
  ·rw[if_neg hij]at hj;obtain⟨u,hu,hu2⟩:=hnew j hj;refine⟨u,hS j u hij ?_ hu,λt ht=>?_⟩
   ·cases hx:after l j i with
    | false=>rfl
    | true=>
     have h1:=h.closed j i hj hx;have h2:listed.getD i false=false:=by
      simp[Array.getD,hls]at hun ⊢;exact hun
     rw[h2]at h1;cases h1
   rw[j6u (λe=>hij (uniq j t e ht).symm)];exact hu2 t ht
def left (n:Nat)(listed:Array Bool):Nat:=((List.range n).filter λj=>!listed.getD j false).length
theorem jlc {n:Nat}{listed:Array Bool}{i:Nat}(hi:i<n)(hs:i<listed.size)(hun:listed.getD i false=false):left n (listed.setIfInBounds i true)<left n listed:=by
 unfold left;have hsub:((List.range n).filter λj=>!(listed.setIfInBounds i true).getD j false)=(((List.range n).filter λj=>!listed.getD j false).filter λj=>j != i):=by
  rw[List.filter_filter];apply List.filter_congr;intro j _;by_cases hij:i=j
  ·subst hij;simp[hs]
  ·simp[Array.getElem?_setIfInBounds_ne hij,Ne.symm hij]
 rw[hsub];have hmem:i∈(List.range n).filter λj=>!listed.getD j false:=by
  rw[List.mem_filter];exact⟨List.mem_range.2 hi,by rw[hun];rfl⟩
 generalize(List.range n).filter (λj=>!listed.getD j false)=L at *;clear hsub;induction L with
 | nil=>cases hmem
 | cons x L ih=>
  rw[List.filter_cons];by_cases hx:x=i
  ·subst hx;simp only[bne_self_eq_false,Bool.false_eq_true,if_false,List.length_cons];exact Nat.lt_succ_of_le (List.length_filter_le _ _)
  ·rw[if_pos (by simpa using hx)];simp only[List.length_cons];rcases List.mem_cons.1 hmem with e|hm
   ·exact absurd e.symm hx
   ·exact Nat.succ_lt_succ (ih hm)
theorem jes {ch:List Nat}(h:chainB l ch=true):∀c i,ch[c]?=some i->i<l.length/\(∀d,ch[d]?=some i->d=c)/\(∀j,ch[c+1]?=some j->after l j i=true):=by
 induction ch with
 | nil=>intro c i hc;simp at hc
 | cons x r ih=>
  unfold chainB at h;simp only[Bool.and_eq_true,Bool.not_eq_true',decide_eq_true_eq]at h;obtain⟨⟨⟨h1,h2⟩,h3⟩,h4⟩:=h;have h2':x∉r:=by simpa using h2
  intro c i hc;cases c with
  | zero=>
   simp only[List.getElem?_cons_zero,Option.some.injEq]at hc;subst hc;refine⟨h1,?_,?_⟩
   ·intro d hd;cases d with
    | zero=>rfl
    | succ d=>exact absurd (List.mem_of_getElem? (by simpa using hd)) h2'
   ·intro j hj;cases r with
    | nil=>simp at hj
    | cons y r=>simp at hj;subst hj;exact h3
  | succ c=>
   have hc':r[c]?=some i:=by simpa using hc
   obtain⟨g1,g2,g3⟩:=ih h4 c i hc';refine⟨g1,?_,?_⟩
   ·intro d hd;cases d with
    | zero=>
     simp only[List.getElem?_cons_zero,Option.some.injEq]at hd;subst hd;exact absurd (List.mem_of_getElem? hc') h2'
    | succ d=>rw[g2 d (by simpa using hd)]
   ·intro j hj;exact g3 j (by simpa using hj)
theorem Inv.any (hok:okB l a0.tmps.size=true)(hch:chainB l chain=true)(hS:∀i j n n' v w w',(chain[n]?=some i/\n'=n+1)\/(i∉chain/\n'=n)->i≠j->after l j i=false->R i w w'->S j n v w->S j n' v w')(hop:OwesAll P l chain S a0 I R Q)
  (hQ:∀a w,I chain.length a w->a.defers=a0.defers->a.tmps.size=a0.tmps.size->(∀t,writer l t=none->a.eval (.tmp t)=a0.eval (.tmp t)) ->
   (∀j,j<l.length->∃v,S j chain.length v w/\∀t,dstOf l j=some t->a.eval (.tmp t)=v)->Q .normal a w) :
  ∀(fuel:Nat) (listed:Array Bool) (a:Act) (w:World),left l.length listed<=fuel->Inv l chain S a0 I listed a w->wpAny P .any l.toArray Q fuel listed a w:=by
 have fin:∀(listed:Array Bool) (a:Act) (w:World),Inv l chain S a0 I listed a w->Region.ready .any l.toArray listed=[]->Q .normal a w:=by
  intro listed a w h hr;have all:∀n j,j<=n->j<l.length->listed.getD j false=true:=by
   intro n;induction n with
   | zero=>
    intro j hj hl;cases hx:listed.getD j false with
    | true=>rfl
    | false=>
     exfalso;have:j∈Region.ready .any l.toArray listed:=by
      refine mem_ready.2 ⟨?_,l[j],by simp[hl],?_⟩
      ·have:j<listed.size:=by rw[h.size];exact hl
       simp[Array.getD,this]at hx ⊢;exact hx
      ·intro e he hb;unfold okB at hok;rw[List.all_eq_true]at hok;have h1:=hok j (List.mem_range.2 hl);rw[Bool.and_eq_true]at h1;have h2:=h1.1;rw[List.getElem?_eq_getElem hl]at h2;simp only[Bool.and_eq_true,Array.all_eq_true_iff_forall_mem]at h2;have h3:=h2.1 e he;simp only[hb,Bool.not_true,Bool.false_or,decide_eq_true_eq]at h3;omega
     rw[hr]at this;cases this
   | succ n ih=>
    intro j hj hl;cases hx:listed.getD j false with
    | true=>rfl
    | false=>
     exfalso;have:j∈Region.ready .any l.toArray listed:=by
      refine mem_ready.2 ⟨?_,l[j],by simp[hl],?_⟩
      ·have:j<listed.size:=by rw[h.size];exact hl
       simp[Array.getD,this]at hx ⊢;exact hx
      ·intro e he hb;unfold okB at hok;rw[List.all_eq_true]at hok;have h1:=hok j (List.mem_range.2 hl);rw[Bool.and_eq_true]at h1;have h2:=h1.1;rw[List.getElem?_eq_getElem hl]at h2;simp only[Bool.and_eq_true,Array.all_eq_true_iff_forall_mem]at h2;have h3:=h2.1 e he;simp only[hb,Bool.not_true,Bool.false_or,decide_eq_true_eq]at h3;exact ih e.on (by omega) (by omega)
     rw[hr]at this;cases this
  obtain⟨k,hkl,hI,hk,hnew⟩:=h.inv;have hkk:k=chain.length:=by
   rcases Nat.lt_or_ge k chain.length with hlt|hge
   ·have h1:=hk k chain[k] (by simp[hlt]);have h2:=(jes hch k chain[k] (by simp[hlt])).1;rw[all _ _ (Nat.le_refl _) h2]at h1;simp at h1
   ·omega
  have hI':I chain.length a w:=hkk▸hI;refine hQ a w hI' h.defers h.tmps (λt ht=>h.old t (λj hj=>absurd hj (jcy ht j))) (λj hj=>by rw[<- hkk];exact hnew j (all j j (Nat.le_refl _) hj))
 intro fuel;induction fuel with
 | zero=>
  intro listed a w hf h;have hr:Region.ready .any l.toArray listed=[]:=by
   cases hx:Region.ready .any l.toArray listed with
   | nil=>rfl
   | cons i r=>
    exfalso;obtain⟨hun,o,ho,_⟩:=mem_ready.1 (show i∈Region.ready .any l.toArray listed by rw[hx];simp);have hil:i<l.length:=by simpa using(Array.getElem?_eq_some_iff.1 ho).1
    have hls:i<listed.size:=by rw[h.size];exact hil
    have hun':listed.getD i false=false:=by simp[Array.getD,hls]at hun ⊢;exact hun
    have:=jlc hil hls hun';omega
  exact⟨hr,fin listed a w h hr⟩
 | succ fuel ih=>
  intro listed a w hf h;refine⟨fin listed a w h,λi hi=>?_⟩;obtain⟨hun,o,ho,_⟩:=mem_ready.1 hi;have ho':l[i]?=some o:=by simpa using ho
  have hil:i<l.length:=(List.getElem?_eq_some_iff.1 ho').1;have hls:i<listed.size:=by rw[h.size];exact hil
  have hun':listed.getD i false=false:=by simp[Array.getD,hls]at hun ⊢;exact hun
  have hlt:=jlc hil hls hun';have hd:dstOf l i=o.dst:=by simp[dstOf,ho']
  obtain⟨k,hkl,hI,hk,hnew⟩:=h.inv;have hset:∀j,(listed.setIfInBounds i true).getD j false=if i=j then true else listed.getD j false:=λj=>by
   by_cases hij:i=j
   ·subst hij;simp[hls]
   ·simp[Array.getElem?_setIfInBounds_ne hij,hij]
  have waits:∀j,after l i j=true->listed.getD j false=true:=λj ha=>by
   unfold after at ha;rw[ho']at ha;simp only[List.any_eq_true]at ha;obtain⟨x,hx,hx2⟩:=ha;simp only[Bool.and_eq_true,beq_iff_eq]at hx2;obtain⟨_,o2,ho2,hall2⟩:=mem_ready.1 hi;rw[ho]at ho2;cases ho2;rw[<- hx2.2];exact hall2 _ (by simpa using hx) hx2.1
  have key:∃n,n<=chain.length/\((chain[k]?=some i/\n=k+1)\/(i∉chain/\n=k))/\Owes P l S a0 I R Q i o k n/\∀c j,chain[c]?=some j->(listed.setIfInBounds i true).getD j false=decide (c<n):=by
   by_cases hc:i∈chain
   ·obtain⟨c,hcl,hci⟩:=List.getElem_of_mem hc;have hci':chain[c]?=some i:=by rw[List.getElem?_eq_getElem hcl,hci]
    have hat:=jes hch c i hci';have hkc:k=c:=by
     have h1:=hk c i hci';rw[hun']at h1;have h1':¬c<k:=by simpa using h1.symm
     rcases Nat.lt_or_ge k c with hlt|hge
     ·exfalso;have hk1:k+1<=c:=hlt;obtain⟨d,rfl⟩:∃d,c=d+1:=⟨c-1,by omega⟩;have hdl:d<chain.length:=by omega
      have hd2:=jes hch d chain[d] (by simp[hdl]);have ha:=hd2.2.2 i hci';have h3:=waits _ ha;rw[hk d chain[d] (by simp[hdl])]at h3;simp at h3;omega
     ·omega
    subst hkc;refine⟨k+1,hcl,.inl ⟨hci',rfl⟩,(hop i o ho').1 k hci',λd j hdj=>?_⟩;rw[hset];by_cases hij:i=j
    ·subst hij;have:=hat.2.1 d hdj;simp[this]
    ·rw[if_neg hij,hk d j hdj];have hne:d≠k:=λe=>by subst e;rw[hci']at hdj;cases hdj;exact hij rfl
     simp;omega
   ·refine⟨k,hkl,.inr ⟨hc,rfl⟩,(hop i o ho').2 hc k hkl (λc j hcj=>⟨λha=>?_,λha=>?_⟩),λd j hdj=>?_⟩
    ·have:=waits j ha;rw[hk c j hcj]at this;simpa using this
    ·rcases Nat.lt_or_ge c k with hlt|hge
     ·exfalso;have h1:=hk c j hcj;rw[decide_eq_true hlt]at h1;have:=h.closed j i h1 ha;rw[this]at hun';cases hun'
     ·exact hge
    ·rw[hset,if_neg (λe=>hc (by rw[e];exact List.mem_of_getElem? hdj)),hk d j hdj]
  obtain⟨n,hnl,hph,hw,hn⟩:=key;unfold wpOp;rw[ho];simp only;have fin2:∀v w',S i n v w'->I n (a.put o.dst v) w'->R i w w'->wpAny P .any l.toArray Q fuel (listed.setIfInBounds i true) (a.put o.dst v) w':=λv w' hv hI2 hR=>by
   rw[<- hd];exact ih _ _ _ (by omega) (h.step hok hnew hi hv ⟨hnl,by rw[hd];exact hI2,hn⟩ (λj v h1 h2=>hS i j k n v _ _ hph h1 h2 hR))
  have:=hw a w hI (h.known hok hnew hi) _ fin2;split
  ·rename_i hwt
   rw[if_pos hwt]at this;exact .inl this
  ·rename_i hwt
   rw[if_neg hwt]at this;exact this
end
end Free
open Go.RowKit
theorem jn2 (ns:List Nd)(i:Nat):(nd (fixTail ns) i).us=(nd ns i).us:=by
 unfold fixTail;by_cases h:ns.length-1<ns.length
 ·rw[jlh i h];by_cases e:ns.length-1=i
  ·rw[if_pos e,e]
  ·rw[if_neg e]
 ·rw[List.set_eq_of_length_le (by omega)]
theorem jb6 {view:Int}{ns:List Nd}(h:chainOk view ns=true):ns.length<=5/\Short ns 12:=by
 obtain⟨_,hn,hst,_⟩:=j1c.1 h;refine⟨hn.2,λn hn=>?_⟩;obtain⟨i,hi,rfl⟩:=List.getElem_of_mem hn;have:=j21 (hst i hi).1;rw[j3o hi]at this;have h1:=this.2.1;rw[logOk,Bool.and_eq_true,decide_eq_true_eq]at h1;exact h1.1
namespace Mix
end Mix
theorem St.boxIn {w0 w:World}{rs:List Res}{V:Nat}{cs:Array Value}{t:TypeId}(h:St w0 w rs)(hr:box V cs t∈rs)(o:Nat){v:Value}(hv:cs[o]?=some v):w.cell? ⟨V,o,none⟩=some v:=by
 rw[cell_of_heap (h.pull hr).boxAt];exact hv
theorem IntsAt.first {w:World}{b off:Nat}{xs:List Int}{x:Int}(h:IntsAt w (some ⟨b,off,none⟩) xs)(hl:0<xs.length)(hx:xs.getD 0 0=x):w.cell? ⟨b,off,none⟩=some (.int .i64 x):=by
 subst hx;rcases h with rfl|⟨b',off',e,hc⟩
 ·simp at hl
 ·cases e;exact hc 0 hl
open Lib (hid)
open Go.RowKit
theorem jnm (b r:Res)(L A:List Res):(b::r::(L++A)).Perm (b::(L++(r::A))):=List.Perm.cons _ List.perm_middle.symm
theorem jfj (view:Int)(a:Option Addr)(cap:Nat)(ns:List Nd)(w:World)(hm:ns.length<=1000)(hs:Short ns 12)(hx:NodesAt w a ns) :
  Calls tnp 118 #[.agg #[.int .i64 view,.slice a ns.length cap]] w λe w'=>∃ms bs,e=.returned (ptr bs)/\keys ms=keys ns/\bs.length=ms.length/\St w w' (lnks ms bs++nds ms):=by
 have s0:=(St.start w).alloc (.cells #[.int .i64 view,.slice a ns.length cap] 34);go_enter Twn.func118,Tryz.ntmps118
 go_wp2_with fail
 generalize w.heap.size=V at *
 go_loopw [3,4] (λp i wr=>∃(k:Nat) (ms:List Nd) (bs:List Nat),k<=ns.length/\i=.int .i64 ((k:Int)-1)/\p=ptr bs/\keys ms=keys (ns.drop k)/\bs.length=ms.length/\St w wr (lnks ms bs++(nds ms++[box V #[.int .i64 view,.slice a ns.length cap] 34]))) (λ_ i _=>(intOf i+1).toNat)
 case atStart=>exact⟨ns.length,[],[],Nat.le_refl _,rfl,rfl,by simp,rfl,s0⟩
 case round=>
  clear s0;obtain⟨k,ms,bs,hk,rfl,rfl,hkey,hbl,s1⟩:=hrel;have HK:=hid hkey;have HBL:=hid hbl;clear hkey hbl;have x0:=s1.boxIn (V:=V) (cs:=#[.int .i64 view,.slice a ns.length cap]) (t:=34) (by simp) 0 rfl;have x1:=s1.boxIn (V:=V) (cs:=#[.int .i64 view,.slice a ns.length cap]) (t:=34) (by simp) 1 rfl;by_cases hlt:0<k
  ·obtain⟨j,rfl⟩:∃j,k=j+1:=⟨k-1,by omega⟩;have ej:((j+1:Nat):Int)-1=(j:Int):=by omega
   rw[ej];obtain⟨b,off,rfl,c0,c1,c2⟩:=(hx.below s1.below).cells j (by omega);have i1:(0:Int)<=(j:Int):=by omega
   have i2:(j:Int)<(ns.length:Int):=by omega
   have DR:=hid (List.drop_eq_getElem_cons (l:=ns) (i:=j) (by omega));rw[<- j3o (by omega)]at DR;have UX:=hid (λW (h:Below w.heap.size w W)=>((hx.2.below h).at (j:=j) (by omega)).1);have hll:=hs.at (j:=j) (by omega);rcases hN:nd ns j with⟨p,y,c,us,q⟩;rw[hN]at c0 c1 c2 DR hll UX;dsimp only at c0 c1 c2 hll UX;obtain⟨pv,hpv⟩:∃pv,ptr bs=.pointer pv:=by cases bs<;>exact⟨_,rfl⟩
   rw[hpv];have HP:=hid hpv;clear hN ej hlt hpv;go_wp2_with fail
   refine(j3i p q y c us _ (by omega) (UX.out _ s1.below)).mono ?_;rintro e w2 ⟨gl,rfl,ss⟩;have s2:=s1.join ss;simp only[List.cons_append,List.nil_append]at s2;have s3:=s2.alloc (.cells #[.int .i64 p,.slice (some ⟨gl,0,none⟩) us.length us.length,.int .i64 q,.pointer pv] 134);have HF:=hid (s3.perm (jnm _ _ _ _));clear s1 s2 s3 ss c0 c1 c2 UX x0 x1;go_wp2_with fail
   go_roundw
   case rel=>exact⟨j,⟨p,some ⟨gl,0,none⟩,us.length,us,q⟩::ms,w2.heap.size::bs,by omega,by go_num,rfl,by
    have e:=HK.out;rw[DR.out];simp only[keys,List.map_cons]at e ⊢;rw[e];rfl,by simp[HBL.out],by
    show St w _ (box w2.heap.size #[.int .i64 p,.slice (some ⟨gl,0,none⟩) us.length us.length,.int .i64 q,ptr bs] 134::(lnks ms bs++_));rw[HP.out];exact HF.out⟩
   case measure=>simp[intOf]<;>omega
  ·obtain rfl:k=0:=by omega
   have FIN:Hid (St w wr (lnks ms bs++nds ms)):=hid (s1.take _ _ (List.append_assoc _ _ _).symm);have HK0:Hid (keys ms=keys ns):=hid HK.out;clear hlt s1;go_wp2_with fail
   go_ret
   exact⟨ms,bs,rfl,HK0.out,HBL.out,FIN.out⟩
def lnksP:List Nd->List Nat->List Nat->List Res
 | n::ns,b::bs,tl=>box b (lnkCells n (bs++tl)) 134::lnksP ns bs tl
 | _,_,_=>[]
theorem jar:∀(ms:List Nd)(bs:List Nat)(ts:List Nd)(tl:List Nat),bs.length=ms.length->lnks (ms++ts) (bs++tl)=lnksP ms bs tl++lnks ts tl
 | [],[],_,_,_=>rfl
 | [],_::_,_,_,h=>by simp at h
 | _::_,[],_,_,h=>by simp at h
 | n::ms,b::bs,ts,tl,h=>by
  have:=jar ms bs ts tl (by simpa using h);simp only[List.cons_append,lnks,lnksP];rw[this]
theorem jlk (bs:List Nat)(b:Nat)(tl tl':List Nat):ptr (bs++b::tl)=ptr (bs++b::tl'):=by cases bs<;>rfl
theorem je5:∀(ms:List Nd)(bs:List Nat)(b:Nat)(tl tl':List Nat),lnksP ms bs (b::tl)=lnksP ms bs (b::tl')
 | [],[],_,_,_=>rfl
 | [],_::_,_,_,_=>rfl
 | _::_,[],_,_,_=>rfl
 | n::ms,c::bs,b,tl,tl'=>by
  simp only[lnksP,lnkCells];rw[je5 ms bs b tl tl',jlk bs b tl tl']
theorem St.linkEnd2 {w0 w:World}{ms:List Nd}{bs:List Nat}{t m:Nd}{b N:Nat}{R:List Res}(h:St w0 w (lnks (ms++[t]) (bs++[b])++R))(hl:bs.length=ms.length)(hN:w.heap.size=N) :
  St w0 ((w.setCell ⟨b,3,none⟩ (.pointer (some ⟨N,0,none⟩))).alloc (.cells (lnkCells m []) 134)) (lnks (ms++[t,m]) (bs++[b,N])++R):=by
 rw[jar ms bs [t] [b] hl]at h;rw[jar ms bs [t,m] [b,N] hl,je5 ms bs b [N] []];have h1:St w0 w (box b (lnkCells t []) 134::(lnksP ms bs [b]++R)):=by
  refine h.perm ?_;have:=List.perm_middle (l₁:=lnksP ms bs [b]) (l₂:=R) (a:=box b (lnkCells t []) 134);rw[List.append_assoc];exact this
 have h2:=(h1.set 3 (.pointer (some ⟨N,0,none⟩))).allocAt (.cells (lnkCells m []) 134) N (by simp[hN]);refine h2.perm ?_;have:=List.perm_append_comm_assoc [box N (lnkCells m []) 134,box b (lnkCells t [N]) 134] (lnksP ms bs [b]) R;refine List.Perm.trans ?_ (this.trans ?_)
 ·exact List.Perm.refl _
 ·rw[List.append_assoc];exact List.Perm.append_left _ (List.Perm.swap _ _ _)
def joined (ns:List Nd)(x:Int):List Nd:=ns++[⟨x,none,0,(nd ns (ns.length-1)).us,(nd ns (ns.length-1)).us.length⟩]
noncomputable def addOk (view:Int)(ns:List Nd)(x:Int):Bool:=chainOk view ns&&chainOk (view+1) (joined ns x)
noncomputable def addNum (view:Int)(ns:List Nd)(x:Int):Int:=if addOk view ns x=true then view+1 else 0
noncomputable def addKeys (view:Int)(ns:List Nd)(x:Int):List Key:=if addOk view ns x=true then keys (joined ns x)else[]
theorem jjk {ns ms:List Nd}{t m:Nd}{x:Int}(h:keys (ms++[t])=keys ns)(h1:m.id=x)(h2:m.us=t.us)(h3:m.done=t.us.length):keys (ms++[t,m])=keys (joined ns x):=by
 have hl:ms.length+1=ns.length:=by have:=congrArg List.length h;simpa[keys]using this
 have ht:(nd ns (ns.length-1)).us=t.us:=by
  rw[<- (j4r h (ns.length-1)).2.1,<- hl];simp[nd]
 have e:ms++[t,m]=(ms++[t])++[m]:=by simp
 rw[e,j2u,h,joined,j2u,ht];simp[keys,keyOf,h1,h2,h3]
theorem jsg (x y f g o v:Res)(L A:List Res):(x::y::(L++(f::g::(A++[o,v])))).Perm (x::y::((A++[g])++(o::([v,f]++L)))):=by
 refine List.Perm.cons _ (List.Perm.cons _ ?_);have h1:=List.perm_append_comm (l₁:=L) (l₂:=f::g::(A++[o,v]));refine h1.trans ?_;have h2:(f::g::(A++([o,v]++L))).Perm (f::(A++(g::([o,v]++L)))):=List.Perm.cons _ List.perm_middle.symm;have h3:(f::((A++[g,o,v])++L)).Perm ((A++[g,o,v])++f::L):=List.perm_middle.symm;refine(List.Perm.of_eq (by simp)).trans (h2.trans ((List.Perm.of_eq (by simp)).trans (h3.trans (List.Perm.of_eq (by simp)))))
theorem jeh {α:Type}{l:List α}(h:0<l.length):∃r x,l=r++[x]:=by
 rcases List.eq_nil_or_concat l with rfl|⟨r,x,h⟩
 ·simp at h
 ·exact⟨r,x,by simpa using h⟩
theorem jcz (view:Int)(a:Option Addr)(cap:Nat)(ns:List Nd)(x:Int)(w:World)(hm:ns.length<=1099511627776)(hs:Short ns 1099511627776)(hx:NodesAt w a ns) :
  Calls tnp 102 #[.agg #[.int .i64 view,.slice a ns.length cap],.int .i64 x] w (GaveChain w (addNum view ns x) (addKeys view ns x) (addOk view ns x)):=by
 have s0:=((St.start w).alloc (.cells #[.int .i64 view,.slice a ns.length cap] 34)).allocAt (.cells #[.int .i64 0,.slice none 0 0] 34) (w.heap.size+1) (by simp);have BAD:=hid (λ(h:addOk view ns x=false)=>(⟨by rw[addNum,h];rfl,by rw[addKeys,h];rfl,h⟩:addNum view ns x=0/\addKeys view ns x=[]/\addOk view ns x=false));cases hv:chainOk view ns with
 | false=>
  have F:=hid (BAD.out (by rw[addOk,hv];rfl));have HV:=hid hv;clear hv;go_enter Twn.func102,Tryz.ntmps102
  go_wp2_with fail
  refine(jz _ _ _ _ _ hm hs (hx.below s0.below)).mono ?_;rw[HV.out];rintro e w1 ⟨rfl,hb⟩;have s1:=s0.call hb;obtain⟨c1,f1⟩:=s1.cells;have s2:=(s1.set 0 (.int .i64 0)).set 1 (.slice none 0 0);have q2:=s2.cells.1;have FIN:=hid (gaveNone s2 F.out.1 F.out.2.1 F.out.2.2);clear s0 s1 s2 hb;go_wp2_with fail
  exact bodyPost_ret (v:=.tuple #[.agg #[.int .i64 0,.slice none 0 0],.bool false]) (by simp[results,Tryz.results102,go_sem,q2]) rfl FIN.out
 | true=>
  obtain⟨⟨hv0,hv9⟩,⟨hl1,hl5⟩,_,_⟩:=j1c.1 hv;have HS12:=(jb6 hv).2;have HV:=hid hv;have DO:Hid (addOk view ns x=chainOk (view+1) (joined ns x)):=hid (by rw[addOk,hv];rfl);have DN:=hid (λ(h:addOk view ns x=true)=>(⟨by rw[addNum,h];rfl,by rw[addKeys,h];rfl,h⟩:addNum view ns x=view+1/\addKeys view ns x=keys (joined ns x)/\addOk view ns x=true));clear hv;go_enter Twn.func102,Tryz.ntmps102
  go_wp2_with fail
  refine(jz _ _ _ _ _ hm hs (hx.below s0.below)).mono ?_;rw[HV.out];rintro e w1 ⟨rfl,hb⟩;have s1:=s0.call hb;obtain⟨c1,_⟩:=s1.drop.cells;clear s0 hb;go_wp2_with fail
  refine(jfj view a cap ns _ (by omega) HS12 (hx.below s1.below)).mono ?_;rintro e w2 ⟨ms0,bs0,rfl,hk0,hbl0,ss⟩;have s2:=s1.join ss;have hkl:ms0.length=ns.length:=by have:=congrArg List.length hk0;simpa[keys]using this
  obtain⟨ms,⟨p,y,c,us,q⟩,rfl⟩:=jeh (l:=ms0) (by omega);obtain⟨bs,b,rfl⟩:=jeh (l:=bs0) (by rw[hbl0];simp);rw[List.append_assoc]at s2;have hbl:bs.length=ms.length:=by simpa using hbl0
  have hms:ms.length<=4:=by
   have:ms.length+1=ns.length:=by simpa using hkl
   omega
  have LK:=hid (jle s2 hbl0 rfl);have eb:(bs++[b]).getD ((ms++[(⟨p,y,c,us,q⟩:Nd)]).length-1) 0=b:=by simp[<- hbl]
  have LC:=jnb (ms++[(⟨p,y,c,us,q⟩:Nd)]) (bs++[b]) w2 (by simp) LK.out;rw[eb]at LC;have UX:=hid (λW R (s:St w W R) (h:∀r∈nds (ms++[(⟨p,y,c,us,q⟩:Nd)]),r∈R)=>((jfo s h) (⟨p,y,c,us,q⟩:Nd) (by simp)).1);have HB:=hid (show box b #[.int .i64 p,.slice y us.length c,.int .i64 q,.pointer none] 134∈lnks (ms++[(⟨p,y,c,us,q⟩:Nd)]) (bs++[b])from by rw[jar _ _ _ _ hbl];simp[lnks,lnkCells,ptr]);have h12:us.length<=12:=by
   have e:=(j4r hk0 (ns.length-1)).2.1;have e2:nd (ms++[(⟨p,y,c,us,q⟩:Nd)]) (ns.length-1)=(⟨p,y,c,us,q⟩:Nd):=by
    have:ms.length+1=ns.length:=by simpa using hkl
    rw[<- this];simp[nd]
   rw[e2]at e;have e3:us=(nd ns (ns.length-1)).us:=e;rw[e3];exact HS12.at (by omega)
  have HSM0:=hid (show∀n∈ms++[(⟨p,y,c,us,q⟩:Nd)],n.us.length<=12 from λn hn=>by
   obtain⟨i,hi,rfl⟩:=List.getElem_of_mem hn;have e:=(j4r hk0 i).2.1;rw[j3o hi]at e;rw[e];exact HS12.at (by omega))
  have JK:=hid (λm h1 h2 h3=>jjk (m:=m) (x:=x) hk0 h1 h2 h3);have HBL:=hid hbl;have P2:=hid (λN=>jlk bs b [] [N]);generalize hpv:ptr (bs++[b])=pv at *;clear hpv hbl0 hk0 hkl eb ss s1 c1 hbl HS12 hx LK;go_wp2_with fail
  refine LC.mono ?_;rintro e w3 ⟨rfl,rfl⟩;clear LC;go_wp2_with fail
  obtain⟨S,hS⟩:=Mix.named (λw'=>w'.cell? ⟨b,1,none⟩=some (.slice y us.length c));have HS:=hid hS;have e0:=Mix.held_cell (λw h=>((hS w).1 h));clear hS;have SO:=hid (λW R (s:St w W R) (h:∀r∈lnks (ms++[(⟨p,y,c,us,q⟩:Nd)]) (bs++[b]),r∈R)=>(HS.out W).2 (s.boxIn (h _ HB.out) 1 rfl));have s3:=s2.drew;clear s2;refine Mix.start S 99 (by kernel_rfl) ?_;generalize w2.drew=w3 at *;refine Mix.take [0,1,2,3,4,5,7,8,9,10,11,12] 4 (by kernel_rfl) (by kernel_rfl) (by kernel_rfl) (by intro c a a' w e h;exact⟨e.symm.trans h.1,h.2⟩) (SO.out _ _ s3 (by intro r hr;simp[hr])) ?_;intro hne;simp only[Mix.pickOps,List.filterMap_cons,List.filterMap_nil,List.getElem?_toArray,List.getElem?_cons_zero,List.getElem?_cons_succ];repeat (refine Mix.cons_form ?_;go_big_quiet_step (fail))
  refine wpQuiet_nil ?_;clear hne;refine Mix.fork (i:=6) (j:=14) (by kernel_rfl) rfl rfl rfl rfl ?_ ?_
  focus
   go_simp;refine(j59 y us.length c us _ rfl (by omega) (UX.out _ _ s3 (by intro r hr;simp[hr]))).mono ?_;rintro e w4 ⟨gl,rfl,ss⟩;have s4:=s3.join ss;simp only[List.cons_append,List.nil_append]at s4;refine And.intro (SO.out _ _ s4 (by intro r hr;simp[hr])) ?_;go_simp;refine Mix.take [13] 2 (by kernel_rfl) (by kernel_rfl) (by kernel_rfl) (by intro c a a' w e h;exact⟨e.symm.trans h.1,h.2⟩) (SO.out _ _ s4 (by intro r hr;simp[hr])) ?_;intro hne;simp only[Mix.pickOps,List.filterMap_cons,List.filterMap_nil,List.getElem?_toArray,List.getElem?_cons_zero,List.getElem?_cons_succ];repeat (refine Mix.cons_form ?_;go_big_quiet_step (fail))
   refine wpQuiet_nil ?_;clear hne;refine Mix.step (i:=14) (by kernel_rfl) rfl rfl ?_;have s5:=s4.alloc (.cells #[.int .i64 0,.slice none 0 0,.int .i64 0] 60);go_simp;refine And.intro (SO.out _ _ s5 (by intro r hr;simp[hr])) ?_;go_simp;generalize w4.alloc (.cells #[.int .i64 0,.slice none 0 0,.int .i64 0] 60 (0,0))=w5 at *;generalize w4.heap.size=F at *;clear s3 s4 ss
  rotate_left
  focus
   have s4:=s3.alloc (.cells #[.int .i64 0,.slice none 0 0,.int .i64 0] 60);go_simp;refine And.intro (SO.out _ _ s4 (by intro r hr;simp[hr])) ?_;go_simp;generalize w3.alloc (.cells #[.int .i64 0,.slice none 0 0,.int .i64 0] 60 (0,0))=w4 at *;generalize w3.heap.size=F at *;refine Mix.step (i:=6) (by kernel_rfl) rfl rfl ?_;go_simp;refine(j59 y us.length c us _ rfl (by omega) (UX.out _ _ s4 (by intro r hr;simp[hr]))).mono ?_;rintro e w5 ⟨gl,rfl,ss⟩;have s5:=(s4.join ss).at1;refine And.intro (SO.out _ _ s5 (by intro r hr;simp[hr])) ?_;go_simp;refine Mix.take [13] 1 (by kernel_rfl) (by kernel_rfl) (by kernel_rfl) (by intro c a a' w e h;exact⟨e.symm.trans h.1,h.2⟩) (SO.out _ _ s5 (by intro r hr;simp[hr])) ?_;intro hne;simp only[Mix.pickOps,List.filterMap_cons,List.filterMap_nil,List.getElem?_toArray,List.getElem?_cons_zero,List.getElem?_cons_succ];repeat (refine Mix.cons_form ?_;go_big_quiet_step (fail))
   refine wpQuiet_nil ?_;clear hne;clear s3 s4 ss
  all_goals
   refine Mix.step (i:=15) (by kernel_rfl) rfl rfl ?_;obtain⟨c5,f5⟩:=s5.cells;have s6:=((s5.set 0 (.int .i64 x)).set 1 (.slice (some ⟨gl,0,none⟩) us.length us.length)).set 2 (.int .i64 (us.length:Nat));go_simp;refine And.intro (SO.out _ _ s6 (by intro r hr;simp[hr])) ?_;refine Mix.done (by kernel_rfl) ?_;have s7:St w (((w5.setCell ⟨F,0,none⟩ (.int .i64 x)).setCell ⟨F,1,none⟩ (.slice (some ⟨gl,0,none⟩) us.length us.length)).setCell ⟨F,2,none⟩ (.int .i64 (us.length:Nat))) (lnks (ms++[(⟨p,y,c,us,q⟩:Nd)]) (bs++[b])++(box F #[.int .i64 x,.slice (some ⟨gl,0,none⟩) us.length us.length,.int .i64 (us.length:Nat)] 60::row (.slice (some ⟨gl,0,none⟩) us.length us.length) 76 2 us.length (ucells us)::(nds (ms++[(⟨p,y,c,us,q⟩:Nd)])++[box (w.heap.size+1) #[.int .i64 0,.slice none 0 0] 34,box w.heap.size #[.int .i64 view,.slice a ns.length cap] 34]))):=s6.perm (List.perm_append_comm_assoc [box F #[.int .i64 x,.slice (some ⟨gl,0,none⟩) us.length us.length,.int .i64 (us.length:Nat)] 60,row (.slice (some ⟨gl,0,none⟩) us.length us.length) 76 2 us.length (ucells us)] (lnks (ms++[(⟨p,y,c,us,q⟩:Nd)]) (bs++[b])) (nds (ms++[(⟨p,y,c,us,q⟩:Nd)])++[box (w.heap.size+1) #[.int .i64 0,.slice none 0 0] 34,box w.heap.size #[.int .i64 view,.slice a ns.length cap] 34]));generalize((w5.setCell ⟨F,0,none⟩ (.int .i64 x)).setCell ⟨F,1,none⟩ (.slice (some ⟨gl,0,none⟩) us.length us.length)).setCell ⟨F,2,none⟩ (.int .i64 (us.length:Nat))=w7 at *;clear s5 s6 c5 f5 SO HS e0 UX;have hb1:=(s7.pull (List.mem_append_left _ HB.out)).cells;obtain⟨cb,fb⟩:=hb1;have k0:=s7.boxIn (V:=F) (cs:=#[.int .i64 x,.slice (some ⟨gl,0,none⟩) us.length us.length,.int .i64 (us.length:Nat)]) (t:=60) (by simp) 0 rfl;have k1:=s7.boxIn (V:=F) (cs:=#[.int .i64 x,.slice (some ⟨gl,0,none⟩) us.length us.length,.int .i64 (us.length:Nat)]) (t:=60) (by simp) 1 rfl;have k2:=s7.boxIn (V:=F) (cs:=#[.int .i64 x,.slice (some ⟨gl,0,none⟩) us.length us.length,.int .i64 (us.length:Nat)]) (t:=60) (by simp) 2 rfl;have lb:=(s7.pull (List.mem_append_left _ HB.out)).lt.2;have s8:=s7.linkEnd2 (m:=(⟨x,some ⟨gl,0,none⟩,us.length,us,us.length⟩:Nd)) HBL.out rfl;clear s7;go_wp2_with fail
   generalize hN:w7.heap.size=N at *;have s9:St w ((w7.setCell ⟨b,3,none⟩ (.pointer (some ⟨N,0,none⟩))).alloc (.cells #[.int .i64 x,.slice (some ⟨gl,0,none⟩) us.length us.length,.int .i64 (us.length:Nat),.pointer none] 134 (0,0))) (lnks (ms++[(⟨p,y,c,us,q⟩:Nd),(⟨x,some ⟨gl,0,none⟩,us.length,us,us.length⟩:Nd)]) (bs++[b,N])++(box F #[.int .i64 x,.slice (some ⟨gl,0,none⟩) us.length us.length,.int .i64 (us.length:Nat)] 60::row (.slice (some ⟨gl,0,none⟩) us.length us.length) 76 2 us.length (ucells us)::(nds (ms++[(⟨p,y,c,us,q⟩:Nd)])++[box (w.heap.size+1) #[.int .i64 0,.slice none 0 0] 34,box w.heap.size #[.int .i64 view,.slice a ns.length cap] 34]))):=s8;generalize(w7.setCell ⟨b,3,none⟩ (.pointer (some ⟨N,0,none⟩))).alloc (.cells #[.int .i64 x,.slice (some ⟨gl,0,none⟩) us.length us.length,.int .i64 (us.length:Nat),.pointer none] 134 (0,0))=w9 at *;have hbl2:(bs++[b,N]).length=(ms++[(⟨p,y,c,us,q⟩:Nd),(⟨x,some ⟨gl,0,none⟩,us.length,us,us.length⟩:Nd)]).length:=by simp[HBL.out]
   have LK:=jle s9 hbl2 rfl;have NC:=hid (λW (h:LinksAt W (ms++[(⟨p,y,c,us,q⟩:Nd),(⟨x,some ⟨gl,0,none⟩,us.length,us,us.length⟩:Nd)]) (bs++[b,N]))=>by
    have k:=jjw (ms++[(⟨p,y,c,us,q⟩:Nd),(⟨x,some ⟨gl,0,none⟩,us.length,us,us.length⟩:Nd)]) (bs++[b,N]) W (by simp;omega) h;rw[<- P2.out N]at k;exact k)
   have JM:=hid (JK.out (⟨x,some ⟨gl,0,none⟩,us.length,us,us.length⟩:Nd) rfl rfl rfl);have EN:=hid (show nds (ms++[(⟨p,y,c,us,q⟩:Nd),(⟨x,some ⟨gl,0,none⟩,us.length,us,us.length⟩:Nd)])=nds (ms++[(⟨p,y,c,us,q⟩:Nd)])++[row (.slice (some ⟨gl,0,none⟩) us.length us.length) 76 2 us.length (ucells us)] by simp[nds,logRes]);have HS2:=hid (show Short (ms++[(⟨p,y,c,us,q⟩:Nd),(⟨x,some ⟨gl,0,none⟩,us.length,us,us.length⟩:Nd)]) 1099511627776 from λn hn=>by
    have h1:n∈ms++[(⟨p,y,c,us,q⟩:Nd)]\/n=(⟨x,some ⟨gl,0,none⟩,us.length,us,us.length⟩:Nd):=by
     simp only[List.mem_append,List.mem_cons,List.not_mem_nil,or_false]at hn ⊢;rcases hn with h|h|h
     ·exact .inl (.inl h)
     ·exact .inl (.inr h)
     ·exact .inr h
    rcases h1 with h|rfl
    ·exact Nat.le_trans (HSM0.out n h) (by omega)
    ·show us.length<=_;omega)
   have hml:(ms++[(⟨p,y,c,us,q⟩:Nd),(⟨x,some ⟨gl,0,none⟩,us.length,us,us.length⟩:Nd)]).length<=1000:=by simp;omega
   generalize ms++[(⟨p,y,c,us,q⟩:Nd),(⟨x,some ⟨gl,0,none⟩,us.length,us,us.length⟩:Nd)]=ms2 at *;generalize bs++[b,N]=bs2 at *;clear s8 cb fb k0 k1 k2 lb hN hbl2;have LKH:=hid (λW R (s:St w9 W R)=>NC.out W (LK.below s.below));obtain⟨S,hS⟩:=Mix.named (λw'=>w'.cell? ⟨w.heap.size,0,none⟩=some (.int .i64 view));have HS:=hid hS;have e0:=Mix.held_cell (λw h=>((hS w).1 h));clear hS LK NC;have SO:=hid (λW R (s:St w W R) (h:box w.heap.size #[.int .i64 view,.slice a ns.length cap] 34∈R)=>(HS.out W).2 (s.boxIn h 0 rfl));have s10:=s9.drew;have t10:=(St.start w9).drew;clear s9;refine Mix.start S 99 (by kernel_rfl) ?_;generalize w9.drew=w10 at *;refine Mix.take [0,1,2,3] 4 (by kernel_rfl) (by kernel_rfl) (by kernel_rfl) (by intro c a a' w e h;exact⟨e.symm.trans h.1,h.2⟩) (SO.out _ _ s10 (by simp)) ?_;intro hne;simp only[Mix.pickOps,List.filterMap_cons,List.filterMap_nil,List.getElem?_toArray,List.getElem?_cons_zero,List.getElem?_cons_succ];repeat (refine Mix.cons_form ?_;go_big_quiet_step (fail))
   refine wpQuiet_nil ?_;clear hne;refine Mix.fork (i:=4) (j:=6) (by kernel_rfl) rfl rfl rfl rfl ?_ ?_
   focus
    go_simp;refine(LKH.out _ _ t10).mono ?_;rintro e w11 ⟨v,rfl,ss⟩;obtain⟨a3,cap3,rfl,_⟩:=j4c ss.own;have s11:=s10.join ss;simp only[List.cons_append,List.nil_append]at s11;refine And.intro (SO.out _ _ s11 (by simp)) ?_;go_simp;refine Mix.take [5] 2 (by kernel_rfl) (by kernel_rfl) (by kernel_rfl) (by intro c a a' w e h;exact⟨e.symm.trans h.1,h.2⟩) (SO.out _ _ s11 (by simp)) ?_;intro hne;simp only[Mix.pickOps,List.filterMap_cons,List.filterMap_nil,List.getElem?_toArray,List.getElem?_cons_zero,List.getElem?_cons_succ];repeat (refine Mix.cons_form ?_;go_big_quiet_step (fail))
    refine wpQuiet_nil ?_;clear hne;refine Mix.step (i:=6) (by kernel_rfl) rfl rfl ?_;have s12:=s11.alloc (.cells #[.int .i64 0,.slice none 0 0] 34);go_simp;refine And.intro (SO.out _ _ s12 (by simp)) ?_;go_simp;generalize w11.alloc (.cells #[.int .i64 0,.slice none 0 0] 34 (0,0))=w12 at *;generalize w11.heap.size=C at *;clear s10 s11 ss t10
   rotate_left
   focus
    have s11:=s10.alloc (.cells #[.int .i64 0,.slice none 0 0] 34);have t11:=t10.alloc (.cells #[.int .i64 0,.slice none 0 0] 34);go_simp;refine And.intro (SO.out _ _ s11 (by simp)) ?_;go_simp;generalize w10.alloc (.cells #[.int .i64 0,.slice none 0 0] 34 (0,0))=w11 at *;generalize w10.heap.size=C at *;refine Mix.step (i:=4) (by kernel_rfl) rfl rfl ?_;go_simp;refine(LKH.out _ _ t11).mono ?_;rintro e w12 ⟨v,rfl,ss⟩;obtain⟨a3,cap3,rfl,_⟩:=j4c ss.own;have s12:=(s11.join ss).at1;refine And.intro (SO.out _ _ s12 (by simp)) ?_;go_simp;refine Mix.take [5] 1 (by kernel_rfl) (by kernel_rfl) (by kernel_rfl) (by intro c a a' w e h;exact⟨e.symm.trans h.1,h.2⟩) (SO.out _ _ s12 (by simp)) ?_;intro hne;simp only[Mix.pickOps,List.filterMap_cons,List.filterMap_nil,List.getElem?_toArray,List.getElem?_cons_zero,List.getElem?_cons_succ];repeat (refine Mix.cons_form ?_;go_big_quiet_step (fail))
    refine wpQuiet_nil ?_;clear hne;clear s10 s11 ss t10 t11
   all_goals
    refine Mix.step (i:=7) (by kernel_rfl) rfl rfl ?_;obtain⟨c12,f12⟩:=s12.cells;have s13:=(s12.set 0 (.int .i64 (view+1))).set 1 (.slice a3 ms2.length cap3);go_simp;refine And.intro (SO.out _ _ s13 (by simp)) ?_;refine Mix.done (by kernel_rfl) ?_;have s14:=s13.perm (jsg _ _ _ _ _ _ _ _);rw[<- EN.out]at s14;generalize(w12.setCell ⟨C,0,none⟩ (.int .i64 (view+1))).setCell ⟨C,1,none⟩ (.slice a3 ms2.length cap3)=w14 at *;clear s12 s13 c12 f12 e0 SO HS;have KO:Hid (chainOk (view+1) ms2=addOk view ns x):=hid (by rw[DO.out];exact jdr JM.out);have CV:=hid (λW (h:NodesAt W a3 ms2)=>jz (view+1) a3 cap3 ms2 W (by omega) HS2.out h);obtain⟨cO,cR,fR,qR,t1,q0,t0⟩:=j1u s14;have HN:=hid (j1s s14 rfl);have LX:=hid s14;clear s14;go_wp2_with fail
    refine(CV.out _ HN.out).mono ?_;rw[KO.out];rintro e w15 ⟨rfl,hb15⟩;have sG:=LX.out.call hb15;clear cO cR fR qR t1 q0 t0 CV;obtain⟨cO,cR,fR,qR,t1,q0,t0⟩:=j1u sG;cases ho:addOk view ns x with
    | true=>
     have D:=hid (DN.out ho);have FIN:=hid (gaveFix t1 D.out.1 (JM.out.trans D.out.2.1.symm) D.out.2.2);clear sG t1 t0 q0 hb15 ho;go_wp2_with fail
     exact bodyPost_ret (v:=.tuple #[.agg #[.int .i64 (view+1),.slice a3 ms2.length cap3],.bool true]) (by simp[results,Tryz.results102,go_sem,qR]) rfl FIN.out
    | false=>
     have D:=hid (BAD.out ho);have FIN:=hid (gaveNone t0 D.out.1 D.out.2.1 D.out.2.2);clear sG t1 t0 qR hb15 ho;go_wp2_with fail
     exact bodyPost_ret (v:=.tuple #[.agg #[.int .i64 0,.slice none 0 0],.bool false]) (by simp[results,Tryz.results102,go_sem,q0]) rfl FIN.out
theorem jtj {cs:List Value}{ms:List Nd}{m:Nd}{k:Nat}(h:k*3+2<cs.length)(ht:cs.take (k*3)=ncells ms) :
  (((cs.set (k*3) (.int .i64 m.id)).set (k*3+1) (.slice m.a m.us.length m.cap)).set (k*3+2) (.int .i64 m.done)).take ((k+1)*3)=ncells (ms++[m]):=by
 rw[show(k+1)*3=k*3+2+1 by omega,j3b _ _ _ (by simpa using h),j3b _ _ _ (by simp;omega),j3b _ _ _ (by omega),ht,j20];simp[ncells]
theorem j3y (w:World)(g cap:Nat)(x:Int)(c:UInt8)(hx:UInt8.ofNat x.toNat=c)(h0:0<=x)(hd:x<256)(hc:w.cell? ⟨g,0,none⟩=some (.int .u8 x)) :
  (convert 22 9 (.slice (some ⟨g,0,none⟩) 1 cap)).run tnp w=.ok (.string ⟨#[c]⟩) w:=by
 subst hx;have h:=run_convert_bytes_back (P:=tnp) w 22 9 5 ⟨g,0,none⟩ cap [UInt8.ofNat x.toNat] Twn.underlying22 Twn.underlying5 Twn.underlying9 (λj hj=>by
  obtain rfl:j=0:=by simpa using hj
  rw[show(⟨g,0,none⟩:Addr).add 0=⟨g,0,none⟩from rfl,hc];have e:x.toNat % 256=x.toNat:=Nat.mod_eq_of_lt (by omega);simp[e];omega)
 simpa using h
theorem j31 {P:Program}(x y:List UInt8)(h:x.length+y.length<=9223372036854775807)(W:World):(Op.stringOp .add ⟨x.toArray⟩ ⟨y.toArray⟩).run P W=.ok (.string ⟨(x++y).toArray⟩) W:=by
 rw[run_string_add_sum W _ _ (by simp[ByteArray.size];omega),ByteArray.mk_append_mk]
theorem j1f:∀n:Nat,(Lib.decDigits n).length<=n+1:=by
 intro n;induction n using Nat.strongRecOn with
 | ind n ih=>
  by_cases h:n<10
  ·rw[Lib.decDigits_one h];simp
  ·rw[Lib.decDigits,dif_neg h];have:=ih (n / 10) (by omega);simp;omega
theorem j2l (w:World)(v:Value)(t:TypeId):(w.alloc (.cells #[v] t)).cell? ⟨w.heap.size,0,none⟩=some v:=by
 rw[cell_of_heap (heap_alloc_new w (.cells #[v] t))];rfl
theorem j2g:∀(n:Nat),n<4611686018427387904->∀w,Calls tnp 30 #[.int .i64 n] w λe w'=>e=.returned (.string ⟨(Lib.decDigits n).toArray⟩)/\Below w.heap.size w w':=by
 intro n;induction n using Nat.strongRecOn with
 | ind n ih=>
  intro hn w;have a1:¬((n:Int) < -9223372036854775807):=by omega
  have a2:¬((n:Int)<0):=by omega
  by_cases h:n<10
  ·have a3:(n:Int)<10:=by omega
   obtain⟨c,hc⟩:∃c,UInt8.ofNat (48+n)=c:=⟨_,rfl⟩;have ob:=j3y (w.alloc (.cells #[.int .u8 (48+n)] 5)) w.heap.size 1 (48+n) c (by rw[show(48+(n:Int)).toNat=48+n by omega];exact hc) (by omega) (by omega) (j2l _ _ _);have bel:=hid ((Below.refl w.heap.size w).alloc (Nat.le_refl _) (.cells #[.int .u8 (48+n)] 5));have fin:(⟨#[c]⟩:ByteArray)=⟨(Lib.decDigits n).toArray⟩:=by rw[Lib.decDigits_one h,<- hc]
   have FIN:=hid fin;clear fin hc;go_enter Twn.func30,Tryz.ntmps30
   go_wp2_with fail
   exact bodyPost_ret (v:=.string ⟨#[c]⟩) (by simp[results,Tryz.results30,go_sem]) rfl ⟨by rw[FIN.out],bel.out⟩
  ·have a3:¬((n:Int)<10):=by omega
   obtain⟨m,hm⟩:∃m,n / 10=m:=⟨_,rfl⟩;obtain⟨d,hd⟩:∃d,n % 10=d:=⟨_,rfl⟩;have q1:Int.tdiv n 10=(m:Int):=by rw[Int.tdiv_eq_ediv_of_nonneg (by omega)];omega
   have q2:Int.tmod n 10=(d:Int):=by rw[Int.tmod_eq_emod_of_nonneg (by omega)];omega
   have d10:d<10:=by omega
   have q3:wrap64 (m:Int)=m:=by unfold wrap64;omega
   obtain⟨c,hcc⟩:∃c,UInt8.ofNat (48+d)=c:=⟨_,rfl⟩;have HCC:=hid hcc;have cat:=j31 (P:=tnp) (Lib.decDigits m) [c] (by have:=j1f m;simp;omega);have IH:=ih m (by omega) (by omega);have fin:(⟨(Lib.decDigits m++[c]).toArray⟩:ByteArray)=⟨(Lib.decDigits n).toArray⟩:=by
    conv=>rhs;rw[Lib.decDigits,dif_neg h,hm,hd]
    rw[<- hcc]
   have FIN:=hid fin;clear fin ih hm hd hcc;go_enter Twn.func30,Tryz.ntmps30
   go_wp2_with fail
   obtain⟨S,hS⟩:=Mix.named (λw'=>Below w.heap.size w w');have HS:=hid hS;clear hS;have s1:Below w.heap.size w w.drew:=(Below.refl w.heap.size w).drew;refine Mix.start S 11 (by kernel_rfl) ?_;refine Mix.take [0,1,3,4,5,6] 5 (by kernel_rfl) (by kernel_rfl) (by kernel_rfl) (by intro c a a' w e h;exact⟨e.symm.trans h.1,h.2⟩) ((HS.out _).2 s1) ?_;intro hne;simp only[Mix.pickOps,List.filterMap_cons,List.filterMap_nil,List.getElem?_toArray,List.getElem?_cons_zero,List.getElem?_cons_succ];repeat (refine Mix.cons_form ?_;go_big_quiet_step (fail))
   refine wpQuiet_nil ?_;clear hne;refine Mix.fork (i:=2) (j:=7) (by kernel_rfl) rfl rfl rfl rfl ?_ ?_
   ·go_simp;refine(IH _).mono ?_;rintro e w2 ⟨rfl,b2⟩;have s2:=s1.trans (b2.mono s1.size);refine And.intro ((HS.out _).2 s2) ?_;have ob:=j3y (w2.alloc (.cells #[.int .u8 (48+d)] 5)) w2.heap.size 1 (48+d) c (by rw[show(48+(d:Int)).toNat=48+d by omega];exact HCC.out) (by omega) (by omega) (j2l _ _ _);have s3:=s2.alloc s2.size (.cells #[.int .u8 (48+d)] 5);refine Mix.step (i:=7) (by kernel_rfl) rfl rfl ?_;go_simp;refine And.intro ((HS.out _).2 s3) ?_;refine Mix.step (i:=8) (by kernel_rfl) rfl rfl ?_;go_simp;refine And.intro ((HS.out _).2 s3) ?_;refine Mix.step (i:=9) (by kernel_rfl) rfl rfl ?_;go_simp;refine And.intro ((HS.out _).2 s3) ?_;refine Mix.step (i:=10) (by kernel_rfl) rfl rfl ?_;go_simp;refine And.intro ((HS.out _).2 s3) ?_;have F3:=hid s3;clear s1 s2 s3 ob;refine Mix.done (by kernel_rfl) ?_;go_wp2_with fail
    exact bodyPost_ret (v:=.string ⟨(Lib.decDigits m++[c]).toArray⟩) (by simp[results,Tryz.results30,go_sem]) rfl ⟨by rw[FIN.out],F3.out⟩
   ·have ob:=j3y (w.alloc (.cells #[.int .u8 (48+d)] 5)).drew w.heap.size 1 (48+d) c (by rw[show(48+(d:Int)).toNat=48+d by omega];exact HCC.out) (by omega) (by omega) (by rw[World.cell?_drew];exact j2l _ _ _);have s2:=((Below.refl w.heap.size w).alloc (Nat.le_refl _) (.cells #[.int .u8 (48+d)] 5)).drew;have hc:(w.alloc (.cells #[.int .u8 (48+d)] 5)).drew.cell? ⟨w.heap.size,0,none⟩=some (.int .u8 (48+d)):=by rw[World.cell?_drew];exact j2l _ _ _
    have HC:=hid hc;clear hc;go_simp;refine And.intro ((HS.out _).2 s2) ?_;refine Mix.fork (i:=2) (j:=8) (by kernel_rfl) rfl rfl rfl rfl ?_ ?_
    ·go_simp;refine(IH _).mono ?_;rintro e w2 ⟨rfl,b2⟩;have s3:=s2.trans (b2.mono s2.size);refine And.intro ((HS.out _).2 s3) ?_;have ob:=j3y w2 w.heap.size 1 (48+d) c (by rw[show(48+(d:Int)).toNat=48+d by omega];exact HCC.out) (by omega) (by omega) ((b2.cell (p:=⟨w.heap.size,0,none⟩) (by show w.heap.size<(w.heap.push _).size;rw[Array.size_push];exact Nat.lt_succ_self _)).trans HC.out);refine Mix.step (i:=8) (by kernel_rfl) rfl rfl ?_;go_simp;refine And.intro ((HS.out _).2 s3) ?_;refine Mix.step (i:=9) (by kernel_rfl) rfl rfl ?_;go_simp;refine And.intro ((HS.out _).2 s3) ?_;refine Mix.step (i:=10) (by kernel_rfl) rfl rfl ?_;go_simp;refine And.intro ((HS.out _).2 s3) ?_;have F3:=hid s3;clear s1 s2 s3 ob;refine Mix.done (by kernel_rfl) ?_;go_wp2_with fail
     exact bodyPost_ret (v:=.string ⟨(Lib.decDigits m++[c]).toArray⟩) (by simp[results,Tryz.results30,go_sem]) rfl ⟨by rw[FIN.out],F3.out⟩
    ·go_simp;refine And.intro ((HS.out _).2 s2) ?_;refine Mix.step (i:=2) (by kernel_rfl) rfl rfl ?_;go_simp;refine(IH _).mono ?_;rintro e w2 ⟨rfl,b2⟩;have s3:=s2.trans (b2.mono s2.size);refine And.intro ((HS.out _).2 s3) ?_;refine Mix.step (i:=9) (by kernel_rfl) rfl rfl ?_;go_simp;refine And.intro ((HS.out _).2 s3) ?_;refine Mix.step (i:=10) (by kernel_rfl) rfl rfl ?_;go_simp;refine And.intro ((HS.out _).2 s3) ?_;have F3:=hid s3;clear s1 s2 s3 ob;refine Mix.done (by kernel_rfl) ?_;go_wp2_with fail
     exact bodyPost_ret (v:=.string ⟨(Lib.decDigits m++[c]).toArray⟩) (by simp[results,Tryz.results30,go_sem]) rfl ⟨by rw[FIN.out],F3.out⟩
end Go.Proofs.T
