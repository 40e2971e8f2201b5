/-
  A part of the proof.
-/
import Derived.OrdersHeld
import Derived.Deep.DeepCutAuto
import Derived.Test.YtbcegllhelfijaaGreatDoorY14
set_option linter.all false
set_option maxRecDepth 100000
set_option maxHeartbeats 8000000
namespace Go.Proofs.T
open Go.RowKit
namespace Mix
structure Held (S:World->Prop) where
 out:World
 ok:S out
theorem named (S0:World->Prop):∃S:World->Prop,∀w,S w↔S0 w:=⟨S0,λ_=>Iff.rfl⟩
def held {S:World->Prop}(x:Held S):World:=x.out
theorem held_cell {S:World->Prop}{p:Addr}{v:Value}(h:∀w,S w->w.cell? p=some v)(x:Held S):(held x).cell? p=some v:=h _ x.ok
section
variable {P:Program}{ops:Array Oper}{Q:Exit->Act->World->Prop}{S:World->Prop}{last:Nat}
def wpE (P:Program)(ops:Array Oper)(Q:Exit->Act->World->Prop)(S:World->Prop)(last:Nat):Nat->Array Bool->Act->World->Prop
 | 0,listed,a,w=>Region.ready .any ops listed=[]/\Q .normal a w
 | fuel+1,listed,a,w=>
  (Region.ready .any ops listed=[]->Q .normal a w) /\
  ∀i∈Region.ready .any ops listed,wpOp P ops Q i (λa' w'=>(last<=i\/S w')/\wpE P ops Q S last fuel (listed.setIfInBounds i true) a' w') a w
theorem js4:∀(fuel:Nat)(listed:Array Bool)(a:Act)(w:World),wpE P ops Q S last fuel listed a w->wpAny P .any ops Q fuel listed a w
 | 0,_,_,_,h=>h
 | fuel+1,_,_,_,h=>⟨h.1,λi hi=>wpOp_mono (λa' w' h'=>js4 fuel _ a' w' h'.2) (h.2 i hi)⟩
def needs (ops:Array Oper):Nat->Nat->Nat->Bool
 | 0,_,_=>false
 | f+1,j,i=>match ops[j]? with
  | some o=>o.after.any λe=>Region.binds .any e&&(e.on==i||needs ops f e.on i)
  | none=>false
def waitsB (ops:Array Oper)(last i:Nat):Bool:=decide (i<last)&&(List.range (ops.size-last)).all λk=>needs ops 16 (last+k) i
def Closed (ops:Array Oper)(listed:Array Bool):Prop:=∀(j:Nat)(o:Oper),ops[j]?=some o->listed.getD j false=true->∀e∈o.after,Region.binds .any e=true->listed.getD e.on false=true
def closedB (ops:Array Oper)(listed:Array Bool):Bool:=(List.range ops.size).all λj=>!listed.getD j false||match ops[j]? with
 | some o=>o.after.all λe=>!Region.binds .any e||listed.getD e.on false
 | none=>true
theorem jgj {listed:Array Bool}(h:closedB ops listed=true):Closed ops listed:=by
 intro j o ho hl e he hb;unfold closedB at h;rw[List.all_eq_true]at h;have h1:=h j (List.mem_range.2 (Array.getElem?_eq_some_iff.1 ho).1);rw[hl,ho]at h1;simp only[Bool.not_true,Bool.false_or,Array.all_eq_true_iff_forall_mem]at h1;have h2:=h1 e he;rw[hb]at h2;simpa using h2
theorem Closed.set {listed:Array Bool}{j:Nat}(h:Closed ops listed)(hj:j∈Region.ready .any ops listed):Closed ops (listed.setIfInBounds j true):=by
 obtain⟨_,oj,hoj,hall⟩:=mem_ready.1 hj;intro k o ho hl e he hb;by_cases hjk:j=k
 ·subst hjk;rw[hoj]at ho;cases ho;exact getD_set_true (hall e he hb)
 ·rw[getD_set_ne false hjk]at hl;exact getD_set_true (h k o ho hl e he hb)
theorem jhh {listed:Array Bool}{i:Nat}(hc:Closed ops listed)(hi:listed.getD i false=false):∀(f j:Nat),needs ops f j i=true->listed.getD j false=false/\j∉Region.ready .any ops listed
 | 0,_,h=>by cases h
 | f+1,j,h=>by
  unfold needs at h;cases ho:ops[j]? with
  | none=>rw[ho]at h;cases h
  | some o=>
   rw[ho]at h;obtain⟨e,he,hb⟩:=Array.any_eq_true'.1 h;simp only[Bool.and_eq_true,Bool.or_eq_true,beq_iff_eq]at hb;have hon:listed.getD e.on false=false:=by
    rcases hb.2 with h1|h1
    ·rw[h1];exact hi
    ·exact(jhh hc hi f e.on h1).1
   refine⟨?_,λhr=>?_⟩
   ·cases hx:listed.getD j false with
    | false=>rfl
    | true=>
     have:=hc j o ho hx e he hb.1;rw[hon]at this;cases this
   ·obtain⟨_,o',ho',hall⟩:=mem_ready.1 hr;rw[ho]at ho';cases ho';have:=hall e he hb.1;rw[hon]at this;cases this
theorem je4 {listed:Array Bool}{i:Nat}(hc:Closed ops listed)(hw:waitsB ops last i=true)(hi:listed.getD i false=false):∀l,last<=l->l∉Region.ready .any ops listed:=by
 intro l hl hr;obtain⟨_,o,ho,_⟩:=mem_ready.1 hr;have hlt:=(Array.getElem?_eq_some_iff.1 ho).1;unfold waitsB at hw;rw[Bool.and_eq_true,List.all_eq_true]at hw;have:=hw.2 (l-last) (List.mem_range.2 (by omega));rw[show last+(l-last)=l by omega]at this;exact(jhh hc hi 16 l this).2 hr
theorem first {i:Nat}{oi:Oper}{v:Value}(hi:ops[i]?=some oi)(hsel:∀(j:Nat)(o:Oper) cs b,ops[j]?=some o->o.op≠.select cs b)(hlast:waitsB ops last i=true)
  (hQ:∀c a w,Q (.panic c) (a.put oi.dst v) w->Q (.panic c) a w) :
  ∀(fuel:Nat) (listed:Array Bool) (a:Act) (w:World),Closed ops listed ->
   (∀j oj,ops[j]?=some oj->j≠i->listed.getD j true=false->(∀e∈oj.after,Region.binds .any e=true->e.on≠i)->oi.apart ops oj=true) ->
   i∈Region.ready .any ops listed->YieldsIf P ops S oi v a->S w ->
   wpE P ops Q S last fuel (listed.setIfInBounds i true) (a.put oi.dst v) w->wpE P ops Q S last (fuel+1) listed a w:=by
 intro fuel;induction fuel with
 | zero=>
  intro listed a w _ _ hr hy hS H;refine⟨λh=>(by rw[h]at hr;cases hr),λj hj=>?_⟩;by_cases hji:j=i
  ·subst hji;exact hy.wpOp hi hS ⟨.inr hS,H⟩
  ·have:=ready_mono hj hji;rw[H.1]at this;cases this
 | succ fuel ih=>
  intro listed a w hcl hfree hr hy hS H;refine⟨λh=>(by rw[h]at hr;cases hr),λj hj=>?_⟩;by_cases hji:j=i
  ·subst hji;exact hy.wpOp hi hS ⟨.inr hS,H⟩
  ·have hun:listed.getD i false=false:=by
    have h0:=(mem_ready.1 hr).1;rcases Nat.lt_or_ge i listed.size with h'|h'
    ·simp[h']at h0 ⊢;exact h0
    ·simp[Array.getElem?_eq_none h']at h0
   have hjl:¬last<=j:=λe=>je4 hcl hlast hun j e hj;have h1:=H.2 j (ready_mono hj hji);obtain⟨hjun,oj,hoj,hall⟩:=mem_ready.1 hj;have hnot:∀e∈oj.after,Region.binds .any e=true->e.on≠i:=λe he hb heq=>by
    have h1:=hall e he hb;rw[heq,hun]at h1;cases h1
   have h2:=wpOp_putIf hoj (hfree j oj hoj hji hjun hnot) (λcs b=>hsel i oi cs b hi) (λcs b=>hsel j oj cs b hoj) hQ hy h1;have hfree':∀k ok,ops[k]?=some ok->k≠i->(listed.setIfInBounds j true).getD k true=false ->
     (∀e∈ok.after,Region.binds .any e=true->e.on≠i)->oi.apart ops ok=true:=λk ok hk hki hun hno=>by
    refine hfree k ok hk hki ?_ hno;by_cases hjk:j=k
    ·subst hjk;exact hjun
    ·rw[getD_set_ne true hjk]at hun;exact hun
   refine wpOp_mono (λa' w' h3=>?_) h2;have hSw:S w':=h3.2.1.resolve_left hjl;refine⟨.inr hSw,ih (listed.setIfInBounds j true) a' w' (hcl.set hj) hfree' (ready_mono hr (Ne.symm hji)) h3.1 hSw ?_⟩;rw[Array.setIfInBounds_comm _ _ hji];exact h3.2.2
def takeB (ops:Array Oper)(last:Nat):List Nat->Array Bool->Bool
 | [],_=>true
 | i::r,listed=>waitsB ops last i&&(Region.ready .any ops listed).contains i&&Region.free .any ops listed i&&takeB ops last r (listed.setIfInBounds i true)
def listAll (listed:Array Bool):List Nat->Array Bool
 | []=>listed
 | i::r=>listAll (listed.setIfInBounds i true) r
def pickOps (ops:Array Oper)(is:List Nat):List Oper:=is.filterMap λi=>ops[i]?
def reads (o:Oper):Bool:=match o.op with
 | .move _|.assign _|.pick ..|.load ..|.fieldAddr ..|.field ..|.indexAddr ..|.index ..|.slice ..|.binOp ..|.unOp ..|.build ..|.extract ..|.convert ..|.nilCheck _=>true
 | .call c=>match c.callee with
  | .builtin .len=>true
  | _=>false
 | _=>false
theorem j5p {s:Sem Value}{w w':World}{n:Next}(h:(do pure (Next.value (<- s)):Sem Next).run P w=.ok n w'):∃x,n=.value x:=by
 simp only[Sem.run_bind,Sem.run_pure]at h;generalize s.run P w=r at h;cases r with
 | ok x w1=>simp only[Result.andThen_ok]at h;cases h;exact⟨x,rfl⟩
 | halt y w1=>simp[Result.andThen]at h
theorem jk4 {ρ:Operand->Value}{o:Oper}{w w':World}{n:Next}(hr:reads o=true)(h:(execOp ρ o).run P w=.ok n w'):∃x,n=.value x:=by
 obtain⟨dst,op,type,pos,after,guard⟩:=o;cases op with
 | move x=>simp only[execOp,Sem.run_pure]at h;cases h;exact⟨_,rfl⟩
 | assign x=>simp only[execOp,Sem.run_pure]at h;cases h;exact⟨_,rfl⟩
 | pick c x y=>
  simp only[execOp,Sem.run_bind,Sem.run_pure]at h;generalize(asBool (ρ c)).run P w=r at h;cases r with
  | ok x w1=>simp only[Result.andThen_ok]at h;cases h;exact⟨_,rfl⟩
  | halt y w1=>simp[Result.andThen]at h
 | nilCheck x=>
  simp only[execOp]at h;generalize ρ x=y at h;have pv:∀z:Value,(pure (Next.value z):Sem Next).run P w=.ok n w'->∃x,n=.value x:=λz h=>by
   simp only[Sem.run_pure]at h;cases h;exact⟨_,rfl⟩
  split at h
  ·simp[runtimePanic,Sem.run_bind]at h
  ·simp[runtimePanic,Sem.run_bind]at h
  ·simp[runtimePanic,Sem.run_bind]at h
  ·split at h
   ·simp[runtimePanic,Sem.run_bind]at h
   ·simp only[Sem.run_bind]at h;generalize Sem.run P program w=r at h;cases r with
    | halt y w1=>simp[Result.andThen]at h
    | ok x w1=>
     simp only[Result.andThen_ok]at h;generalize Sem.run P (nilAhead _ _ _ _) w1=r at h;cases r with
     | halt y w2=>simp[Result.andThen]at h
     | ok y w2=>
      simp only[Result.andThen_ok]at h;split at h
      ·simp only[Sem.run_bind]at h;generalize Sem.run P (unsupported _) w2=r at h;cases r with
       | halt y w3=>simp[Result.andThen]at h
       | ok z w3=>simp only[Result.andThen_ok,Sem.run_pure]at h;cases h;exact⟨_,rfl⟩
      ·simp only[Sem.run_pure]at h;cases h;exact⟨_,rfl⟩
   ·exact pv _ h
  ·exact pv _ h
 | load t x=>exact j5p h
 | fieldAddr t x k=>exact j5p h
 | field t x k=>exact j5p h
 | indexAddr t x k=>exact j5p h
 | index t x k=>exact j5p h
 | slice t x lo hi m=>exact j5p h
 | binOp b t x y t'=>exact j5p h
 | unOp b t x=>exact j5p h
 | build t ps=>exact j5p h
 | extract t k=>exact j5p h
 | convert t t' x=>exact j5p h
 | call c=>
  obtain⟨callee,args,argTypes⟩:=c;cases callee with
  | builtin b=>
   cases b<;>first|(simp[reads]at hr;done)|skip
   simp only[execOp,resolve,invoke,builtin,Sem.run_bind,Sem.run_pure,Result.andThen_ok]at h;refine j5p (s:=Builtin.len_ argTypes type (args.map ρ)) (P:=P) (w:=w) (w':=w') ?_;simp only[Sem.run_bind,Sem.run_pure];exact h
  | _=>simp[reads]at hr
 | _=>simp[reads]at hr
theorem jk3 {C:World->Prop}{o:Oper}{a:Act}{v:Value}(hr:reads o=true){w:World}(h:o.quietAt P a C w v):(execOp a.eval o).run P w=.ok (.value v) w:=by
 unfold Oper.quietAt at h;generalize hq:(execOp a.eval o).run P w=r at h;cases r with
 | ok n w'=>
  obtain⟨x,rfl⟩:=jk4 hr hq;simp only[Oper.quietUpon]at h;obtain⟨rfl,rfl⟩:=h;rfl
 | halt x w'=>simp only[Oper.quietUpon]at h
theorem jlr (hs:Region.noSelect ops=true)(hQ:∀c a a' w,a.defers=a'.defers->Q (.panic c) a w->Q (.panic c) a' w)(fuel:Nat)(w:World)(hS:S w) :
  ∀(is:List Nat) (listed:Array Bool) (a:Act),Closed ops listed->takeB ops last is listed=true->(is.all λi=>match ops[i]? with|some o=>reads o|none=>false)=true ->
   wpQuiet P ops (λw'=>∃x:Held S,w'=held x) (λa'=>wpE P ops Q S last fuel (listAll listed is) a' w) (pickOps ops is) a->wpE P ops Q S last (fuel+is.length) listed a w
 | [],_,_,_,_,_,h=>by simpa[pickOps,listAll,wpQuiet]using h
 | i::is,listed,a,hcl,hB,hr,h=>by
  simp only[takeB,Bool.and_eq_true]at hB;obtain⟨⟨⟨hw,hready⟩,hfree⟩,hB'⟩:=hB;simp only[List.all_cons,Bool.and_eq_true]at hr;obtain⟨hri,hr'⟩:=hr;cases ho:ops[i]? with
  | none=>rw[ho]at hri;cases hri
  | some o=>
   rw[ho]at hri;have e:pickOps ops (i::is)=o::pickOps ops is:=by simp[pickOps,ho]
   rw[e]at h;have go:∀v,YieldsIf P ops S o v a->wpQuiet P ops (λw'=>∃x:Held S,w'=held x) (λa'=>wpE P ops Q S last fuel (listAll (listed.setIfInBounds i true) is) a' w) (pickOps ops is) (a.put o.dst v)->wpE P ops Q S last (fuel+(i::is).length) listed a w:=λv hy hk=>
    first ho (Region.noSelect_spec hs) hw (λc a w=>hQ c _ _ w (by cases o.dst<;>rfl)) (fuel+is.length) listed a w hcl (Region.free_spec ho hfree) (by simpa using hready) hy hS (jlr hs hQ fuel w hS is _ _ (hcl.set (by simpa using hready)) hB' hr' hk)
   unfold wpQuiet at h;by_cases hwn:Region.wanted o (yielded ops a.tmps)=true
   ·rw[if_pos hwn]at h;obtain⟨v,hv,hk⟩:=h;exact go v (.inl ⟨hwn,λw' hw'=>jk3 hri (hv w' ⟨⟨w',hw'⟩,rfl⟩)⟩) hk
   ·rw[if_neg hwn]at h;exact go undef (.inr ⟨by simpa using hwn,rfl⟩) h
theorem take (is:List Nat)(fuel:Nat){listed:Array Bool}{a:Act}{w:World}(hs:Region.noSelect ops=true)(hB:(closedB ops listed&&takeB ops last is listed)=true)(hr:(is.all λi=>match ops[i]? with|some o=>reads o|none=>false)=true)
  (hQ:∀c a a' w,a.defers=a'.defers->Q (.panic c) a w->Q (.panic c) a' w)(hS:S w)
  (h:Nonempty (Held S)->wpQuiet P ops (λw'=>∃x:Held S,w'=held x) (λa'=>wpE P ops Q S last fuel (listAll listed is) a' w) (pickOps ops is) a):wpE P ops Q S last (fuel+is.length) listed a w:=
 jlr hs hQ fuel w hS is listed a (jgj (by rw[Bool.and_eq_true]at hB;exact hB.1)) (by rw[Bool.and_eq_true]at hB;exact hB.2) hr (h ⟨⟨w,hS⟩⟩)
theorem cons_form {C:World->Prop}{Q:Act->Prop}{o:Oper}{rest:List Oper}{a:Act}(h:wpQuiet P ops C Q (o::rest) a):wpQuiet P ops C Q (o::rest) a:=h
theorem step {i:Nat}{o:Oper}{fuel:Nat}{listed:Array Bool}{a:Act}{w:World}(hr:Region.ready .any ops listed=[i])(ho:ops[i]?=some o)(hg:o.guard=none)
  (h:o.wp P a w (λa' w'=>(last<=i\/S w')/\wpE P ops Q S last fuel (listed.setIfInBounds i true) a' w') Q):wpE P ops Q S last (fuel+1) listed a w:=by
 refine⟨λh0=>(by rw[hr]at h0;cases h0),λj hj=>?_⟩;rw[hr]at hj;simp only[List.mem_singleton]at hj;subst hj;unfold wpOp;simp only[ho];rw[if_pos (by simp[Region.wanted,hg])];exact .inl h
theorem fork {i j:Nat}{oi oj:Oper}{fuel:Nat}{listed:Array Bool}{a:Act}{w:World}(hr:Region.ready .any ops listed=[i,j])(hoi:ops[i]?=some oi)(hgi:oi.guard=none)(hoj:ops[j]?=some oj)(hgj:oj.guard=none)
  (h1:oi.wp P a w (λa' w'=>(last<=i\/S w')/\wpE P ops Q S last fuel (listed.setIfInBounds i true) a' w') Q)
  (h2:oj.wp P a w (λa' w'=>(last<=j\/S w')/\wpE P ops Q S last fuel (listed.setIfInBounds j true) a' w') Q):wpE P ops Q S last (fuel+1) listed a w:=by
 refine⟨λh0=>(by rw[hr]at h0;cases h0),λx hx=>?_⟩;rw[hr]at hx;simp only[List.mem_cons,List.not_mem_nil,or_false]at hx;rcases hx with rfl|rfl
 ·unfold wpOp;simp only[hoi];rw[if_pos (by simp[Region.wanted,hgi])];exact .inl h1
 ·unfold wpOp;simp only[hoj];rw[if_pos (by simp[Region.wanted,hgj])];exact .inl h2
theorem done {listed:Array Bool}{a:Act}{w:World}(hr:Region.ready .any ops listed=[])(h:Q .normal a w):wpE P ops Q S last 0 listed a w:=⟨hr,h⟩
end
theorem start {P:Program}{Q:Exit->Act->World->Prop}{l:List Oper}{id:Nat}{a:Act}{w:World}(S:World->Prop)(last:Nat)(hm:P.follows .mixedOrders=true)
  (h:wpE P l.toArray Q S last l.length (Array.replicate l.length false) a w.drew):(Code.region id l.toArray true).wp P Q a w:=
 wp_region_any hm (by simpa using js4 _ _ _ _ h)
end Mix
open Go.RowKit
theorem j66 {w:World}{base:Nat}{a:Option Addr}{e:TypeId}{size n cap:Nat}{xs:List Value}(h:w.ownsRow base e size (.slice a n cap) n xs):n<=cap:=by
 rcases h.2 with⟨e,h0⟩|⟨g',cap',cur,e,_,_,h1,_⟩
 ·rw[h0];exact Nat.zero_le _
 ·cases e;exact h1
theorem St.join {w0 w w':World}{rs:List Res}(h:St w0 w rs):∀{ns:List Res},St w w' ns->St w0 w' (ns++rs)
 | [],k=>h.call k
 | r::ns,k=>by
  obtain⟨h1,h2,h3,hr⟩:=k;refine⟨h1,λb hb=>⟨Nat.le_trans h.size (h2 b hb).1,(h2 b hb).2⟩,λz hz=>?_,h.join hr⟩;rcases List.mem_append.1 hz with hz|hz
  ·exact h3 z hz
  ·cases hb:r.blk with
   | none=>exact .inl hb
   | some b=>
    refine .inr λe=>?_;have:=h.blk_lt z hz b (by rw[<- e,hb]);have:=(h2 b hb).1;omega
theorem St.only {w0 w:World}{r:Res}{rs:List Res}(h:St w0 w (r::rs)):St w0 w [r]:=by
 refine⟨h.1,h.2.1,?_,h.below⟩;intro z hz;simp at hz
theorem j3m:Elem tnp 32 60 3 40:=by
 obtain⟨i,hi,h0,h1,h2⟩:=info_parts (show(tnp.info? 60).map (λi=>(i.zero,i.size,i.bytes))=some (some (.agg #[.int .i64 0,.slice none 0 0,.int .i64 0]),3,40) by kernel_rfl);exact⟨Twn.underlying32,i,_,hi,h0,h1,h2,rfl,by omega⟩
theorem jm4 {view:Int}{ns:List Nd}(h:chainOk view ns=true):∀i,i<ns.length->(nd ns i).us.length<=(nd ns 0).us.length/\(nd ns i).us.length<=12:=by
 obtain⟨_,_,hst,_⟩:=j1c.1 h;intro i;induction i with
 | zero=>intro hi;exact⟨Nat.le_refl _,(j2p (j21 (hst 0 hi).1).2.1).1⟩
 | succ i ih=>
  intro hi;have h1:=(hst (i+1) hi).2.2 (by omega);exact⟨Nat.le_trans h1.1.length_le (ih (by omega)).1,(j2p (j21 (hst _ hi).1).2.1).1⟩
section
variable {P:Program}{w:World}{o:Oper}{a:Act}
theorem jcn (base:Nat)(t ty e:TypeId)(i:TypeInfo)(size:Nat)(ht:P.underlying t=some (.slice e))(hi:P.info? e=some i)
  (v:Value)(n:Nat)(xs:List Value)(hown:w.ownsRow base e size v n xs)(ad:Option Addr)(c:Nat) :
  (Builtin.append_ #[t,t] ty #[v,.slice ad 0 c]).run P w=.ok v w:=by
 cases ad with
 | none=>
  rcases hown.2 with⟨rfl,rfl⟩|⟨g,cap,cur,rfl,_,_,hnc,_⟩
  ·simp[Builtin.append_,run_underlying ht,sizeOf,typeInfo,hi,Builtin.lenOf,Builtin.firstCells]
  ·simp[Builtin.append_,run_underlying ht,sizeOf,typeInfo,hi,Builtin.lenOf,Builtin.firstCells,hnc,storeCells]
 | some x=>
  rcases hown.2 with⟨rfl,rfl⟩|⟨g,cap,cur,rfl,_,_,hnc,_⟩
  ·simp[Builtin.append_,run_underlying ht,sizeOf,typeInfo,hi,Builtin.lenOf,Builtin.firstCells,loadCells,loadCellsFrom]
  ·simp[Builtin.append_,run_underlying ht,sizeOf,typeInfo,hi,Builtin.lenOf,Builtin.firstCells,hnc,storeCells,loadCells,loadCellsFrom]
theorem js7 {K:Act->World->Prop}{Q:Exit->Act->World->Prop}{t e:TypeId}{size bytes:Nat}(he:Elem P t e size bytes)(s x:Operand)
  (ho:o.op=.call { callee:=.builtin .append,args:=#[s,x],argTypes:=#[t,t] })(base:Nat)(v:Value)(n:Nat)(xs:List Value)(hs:a.eval s=v)
  (ad:Option Addr)(m c:Nat)(hx:a.eval x=.slice ad m c)(news:List Value)(hl:news.length=m*size)(h1:∀u∈news,u.oneCell'=true)(hn:n+m<=1000000000)(hby:bytes<=10000)
  (hh:CellsAt w ad news)(hown:w.ownsRow base e size v n xs)(hbase:base<=w.heap.size)
  (h:∀v' w',w'.ownsRow base e size v' (n+m) (xs++news)->w.grownBy w' v.ownBlock->(v'.ownBlock=v.ownBlock\/v'.ownBlock=some w.heap.size)->(∀b,v'.ownBlock=some b->b<w'.heap.size)->K (a.put o.dst v') w'):o.wp P a w K Q:=by
 by_cases hm:0<m
 ·have hsz:0<size:=he.2.choose_spec.choose_spec.2.2.2.2.2;have hne:news≠[]:=by
   intro e0;rw[e0]at hl;have:0<m*size:=Nat.mul_pos hm hsz;simp at hl;omega
  obtain⟨b,off,rfl,hc⟩:=hh.resolve_left hne;refine jwd he s x ho base v n xs hs ⟨b,off,none⟩ m c hx news hl h1 hm hn hby (λj u hj=>?_) hown hbase λg' cap w' h2 h3 h4 h5=>h _ w' h2 h3 ?_ ?_
  ·obtain⟨hlt,hu⟩:=List.getElem?_eq_some_iff.1 hj;have:=hc j hlt;rw[List.getElem?_eq_getElem hlt,hu]at this;rcases Nat.eq_zero_or_pos j with rfl|hj0
   ·simpa[Addr.add]using this
   ·simpa[Addr.add,Nat.ne_of_gt hj0]using this
  ·rcases h4 with h4|h4
   ·exact .inl h4.symm
   ·exact .inr (by rw[<- h4];rfl)
  ·intro b' hb';cases hb';exact h5
 ·obtain rfl:m=0:=by omega
  obtain rfl:news=[]:=List.eq_nil_of_length_eq_zero (by simpa using hl);obtain⟨ht,i,z,hi,_⟩:=he;have hrun:=jcn (P:=P) (w:=w) base t o.type e i size ht hi v n xs hown ad c;unfold Oper.wp;simp[execOp,ho,resolve,invoke,builtin,hs,hx,hrun,Result.andThen];exact h v w (by simpa using hown) (j1y _ _) (.inl rfl) (λb hb=>(hown.lt b hb).2)
theorem jqi {Q:Exit->Act->World->Prop}{ops:Array Oper}{rest:List Oper}{t e:TypeId}{size bytes:Nat}(he:Elem P t e size bytes)(hgd:o.guard=none)(s x:Operand)
  (ho:o.op=.call { callee:=.builtin .append,args:=#[s,x],argTypes:=#[t,t] })(base:Nat)(v:Value)(n:Nat)(xs:List Value)(hs:a.eval s=v)
  (ad:Option Addr)(m c:Nat)(hx:a.eval x=.slice ad m c)(news:List Value)(hl:news.length=m*size)(h1:∀u∈news,u.oneCell'=true)(hn:n+m<=1000000000)(hby:bytes<=10000)
  (hh:CellsAt w ad news)(hown:w.ownsRow base e size v n xs)(hbase:base<=w.heap.size)
  (h:∀v' w',w'.ownsRow base e size v' (n+m) (xs++news)->w.grownBy w' v.ownBlock->(v'.ownBlock=v.ownBlock\/v'.ownBlock=some w.heap.size)->(∀b,v'.ownBlock=some b->b<w'.heap.size)->wpList P ops Q rest (a.put o.dst v') w'):wpList P ops Q (o::rest) a w:=
 wpList_plain hgd λ_ hK=>js7 he s x ho base v n xs hs ad m c hx news hl h1 hn hby hh hown hbase λv' w' h2 h3 h4 h5=>hK _ _ (h v' w' h2 h3 h4 h5)
theorem St.appV {w0 w w' W:World}{rs:List Res}{v v':Value}{e:TypeId}{size n n':Nat}{xs xs':List Value}{base:Nat}(h:St w0 w (row v e size n xs::rs))(hW:w.grownBy W none)
  (hown:w'.ownsRow base e size v' n' xs')(hg:W.grownBy w' v.ownBlock)(hat:v'.ownBlock=v.ownBlock\/v'.ownBlock=some W.heap.size)(hl:∀b,v'.ownBlock=some b->b<w'.heap.size):St w0 w' (row v' e size n' xs'::rs):=by
 have h2:St w0 W (row v e size n xs::rs):=h.kept hW (by simp) λz _=>by cases z.blk<;>simp
 refine h2.turn hg (j75 hown) (λb hb=>?_) hl;rcases hat with e|e
 ·exact .inl (e.symm.trans hb)
 ·refine .inr ?_;have:some W.heap.size=some b:=e.symm.trans hb;cases this;exact Nat.le_refl _
end
open Go.RowKit
def logRes (n:Nd):Res:=row (.slice n.a n.us.length n.cap) 76 2 n.us.length (ucells n.us)
def nds (ns:List Nd):List Res:=ns.map logRes
theorem St.perm {w0 w:World}:∀{rs rs':List Res},rs.Perm rs'->St w0 w rs->St w0 w rs':=by
 intro rs rs' h;induction h with
 | nil=>exact id
 | cons x hp ih=>exact λhs=>hs.under ih (λz hz=>hp.mem_iff.2 hz)
 | swap x y l=>exact λhs=>hs.at1
 | trans h1 h2 ih1 ih2=>exact λhs=>ih2 (ih1 hs)
theorem St.pull {w0 w:World}{rs:List Res}{r:Res}(h:St w0 w rs)(hr:r∈rs):St w0 w [r]:=by
 obtain⟨a,b,rfl⟩:=List.append_of_mem hr;exact(h.perm List.perm_middle).only
theorem jfo {w0 w:World}{rs:List Res}{ns:List Nd}(h:St w0 w rs)(hs:∀r∈nds ns,r∈rs):LogsAt w ns:=λn hn=>by
 have h1:=h.pull (hs (logRes n) (List.mem_map_of_mem hn));exact⟨j2z h1.own,j66 h1.own⟩
theorem j3f:∀(ns:List Nd)(i:Nat)(d:Int),i<ns.length->(ncells ns).set (i*3+2) (.int .i64 d)=ncells (ns.set i { nd ns i with done:=d })
 | [],_,_,h=>by simp at h
 | n::r,0,d,_=>by simp[j1i,nd]
 | n::r,i+1,d,h=>by
  have:=j3f r i d (by simpa using h);have e:nd (n::r) (i+1)=nd r i:=by simp[nd]
  rw[j1i,show(i+1)*3+2=(i*3+2)+1+1+1 by omega,List.set_cons_succ,List.set_cons_succ,List.set_cons_succ,this,e,List.set_cons_succ,j1i]
theorem jc8 {ns:List Nd}{i:Nat}{n:Nd}(h:logRes n=logRes (nd ns i)):nds (ns.set i n)=nds ns:=by
 unfold nds;rw[List.map_set,h];by_cases hi:i<ns.length
 ·rw[j3o hi];apply List.ext_getElem
  ·simp
  ·intro j h1 h2;rw[List.getElem_set];split
   ·rename_i e;subst e;simp
   ·rfl
 ·rw[List.set_eq_of_length_le (by simpa using hi)]
theorem ji5 {ns:List Nd}{i:Nat}{n:Nd}{m:Nat}(h:Short ns m)(hn:n.us.length<=m):Short (ns.set i n) m:=λx hx=>by
 rcases List.mem_or_eq_of_mem_set hx with hx|rfl
 ·exact h x hx
 ·exact hn
theorem jat (ns:List Nd)(n:Nd):nds (ns++[n])=nds ns++[logRes n]:=by simp[nds]
open Lib (hid)
abbrev Key:=Int×List Upd×Int
def keyOf (n:Nd):Key:=(n.id,n.us,n.done)
def keys (ns:List Nd):List Key:=ns.map keyOf
theorem j17 (ns:List Nd):(keys ns).length=ns.length:=by simp[keys]
theorem j4r {ns ms:List Nd}(h:keys ns=keys ms)(i:Nat):(nd ns i).id=(nd ms i).id/\(nd ns i).us=(nd ms i).us/\(nd ns i).done=(nd ms i).done:=by
 have hl:ns.length=ms.length:=by rw[<- j17 ns,h,j17]
 by_cases hi:i<ns.length
 ·have h1:(keys ns)[i]?=(keys ms)[i]?:=by rw[h]
  rw[keys,keys,List.getElem?_map,List.getElem?_map,List.getElem?_eq_getElem hi,List.getElem?_eq_getElem (hl▸hi)]at h1;simp only[Option.map_some,Option.some.injEq,keyOf,Prod.mk.injEq]at h1;rw[j3o hi,j3o (hl▸hi)];exact h1
 ·have e1:nd ns i=default:=by simp[nd,hi]
  have e2:nd ms i=default:=by simp[nd,show¬i<ms.length by omega]
  rw[e1,e2];exact⟨rfl,rfl,rfl⟩
theorem jn9 {ns ms:List Nd}(hl:ns.length=ms.length)(h:∀i,i<ns.length->(nd ns i).id=(nd ms i).id/\(nd ns i).us=(nd ms i).us/\(nd ns i).done=(nd ms i).done):keys ns=keys ms:=by
 apply List.ext_getElem
 ·simp[keys,hl]
 ·intro i h1 h2;have hi:i<ns.length:=by simpa[keys]using h1
  have:=h i hi;rw[j3o hi,j3o (hl▸hi)]at this;simp only[keys,List.getElem_map,keyOf];rw[this.1,this.2.1,this.2.2]
theorem jdr {view:Int}{ns ms:List Nd}(h:keys ns=keys ms):chainOk view ns=chainOk view ms:=by
 have hl:ns.length=ms.length:=by rw[<- j17 ns,h,j17]
 have hk:=j4r h;have e:chainP view ns↔chainP view ms:=by
  unfold chainP stepP tailP;simp only[(hk _).1,(hk _).2.1,(hk _).2.2,hl]
 cases h1:chainOk view ns with
 | true=>exact(j45 (e.1 (j1c.1 h1))).symm
 | false=>
  refine(j3e λhc=>?_).symm;rw[j45 (e.2 hc)]at h1;cases h1
theorem j3i (id done:Int)(a:Option Addr)(cap:Nat)(us:List Upd)(w:World)(hm:us.length<=2097152)(hx:UpdsAt w a us) :
  Calls tnp 117 #[.agg #[.int .i64 id,.slice a us.length cap,.int .i64 done]] w λe w'=>∃g,e=.returned (.agg #[.int .i64 id,.slice (some ⟨g,0,none⟩) us.length us.length,.int .i64 done])/\St w w' [row (.slice (some ⟨g,0,none⟩) us.length us.length) 76 2 us.length (ucells us)]:=by
 have s0:=((St.start w).alloc (.cells #[.int .i64 id,.slice a us.length cap,.int .i64 done] 60)).allocAt (.cells #[.int .i64 0,.slice none 0 0,.int .i64 0] 60) (w.heap.size+1) (by simp);go_enter Twn.func117,Tryz.ntmps117
 go_wp2_with fail
 generalize(w.alloc (.cells #[.int .i64 id,.slice a us.length cap,.int .i64 done] 60 (0,0))).alloc (.cells #[.int .i64 0,.slice none 0 0,.int .i64 0] 60 (0,0))=w1 at *;obtain⟨S,hS⟩:=Mix.named (λw'=>w'.cell? ⟨w.heap.size,0,none⟩=some (.int .i64 id)/\w'.cell? ⟨w.heap.size,1,none⟩=some (.slice a us.length cap)/\w'.cell? ⟨w.heap.size,2,none⟩=some (.int .i64 done));have HS:=hid hS;have e0:=Mix.held_cell (λw h=>((hS w).1 h).1);have e1:=Mix.held_cell (λw h=>((hS w).1 h).2.1);have e2:=Mix.held_cell (λw h=>((hS w).1 h).2.2);clear hS;have SO:=hid (λW rr (hr:boxo w.heap.size (.cells #[.int .i64 id,.slice a us.length cap,.int .i64 done] 60 (0,0))∈rr) (s:St w W rr)=>by
  have a0:=cell_of_heap (o:=0) (s.pull hr).boxAt;have a1:=cell_of_heap (o:=1) (s.pull hr).boxAt;have a2:=cell_of_heap (o:=2) (s.pull hr).boxAt;simp at a0 a1 a2;exact(HS.out W).2 ⟨a0,a1,a2⟩)
 have s1:=s0.drew;refine Mix.start S 8 (by kernel_rfl) ?_;refine Mix.take [0,1,2,3,5,6] 3 (by kernel_rfl) (by kernel_rfl) (by kernel_rfl) (by intro c a a' w e h;exact⟨e.symm.trans h.1,h.2⟩) (SO.out _ _ (by simp) s1) ?_;intro hne;simp only[Mix.pickOps,List.filterMap_cons,List.filterMap_nil,List.getElem?_toArray,List.getElem?_cons_zero,List.getElem?_cons_succ];repeat (refine Mix.cons_form ?_;go_big_quiet_step (fail))
 refine wpQuiet_nil ?_;clear hne;refine Mix.step (i:=4) (by kernel_rfl) rfl rfl ?_;go_simp;refine(j59 a us.length cap us _ rfl hm (hx.below s1.below)).mono ?_;rintro e w2 ⟨g,rfl,ss⟩;have s2:=s1.join ss;simp only[List.cons_append,List.nil_append]at s2;refine And.intro (SO.out _ _ (by simp) s2) ?_;go_simp;clear s0 s1 ss;refine Mix.take [7] 1 (by kernel_rfl) (by kernel_rfl) (by kernel_rfl) (by intro c a a' w e h;exact⟨e.symm.trans h.1,h.2⟩) (SO.out _ _ (by simp) s2) ?_;intro hne;simp only[Mix.pickOps,List.filterMap_cons,List.filterMap_nil,List.getElem?_toArray,List.getElem?_cons_zero,List.getElem?_cons_succ];repeat (refine Mix.cons_form ?_;go_big_quiet_step (fail))
 refine wpQuiet_nil ?_;clear hne;refine Mix.step (i:=8) (by kernel_rfl) rfl rfl ?_;obtain⟨c2,f2⟩:=s2.at1.cells;have s3:=((s2.at1.set 0 (.int .i64 id)).set 1 (.slice (some ⟨g,0,none⟩) us.length us.length)).set 2 (.int .i64 done);have q3:=s3.cells.1;go_simp;refine Mix.done (by kernel_rfl) ?_;have FIN:=hid s3.drop.only;clear s2 s3 c2 f2;go_wp2_with fail
 exact bodyPost_ret (v:=.agg #[.int .i64 id,.slice (some ⟨g,0,none⟩) us.length us.length,.int .i64 done]) (by simp[results,Tryz.results117,go_sem,q3]) rfl ⟨g,rfl,FIN.out⟩
def fixTail (ns:List Nd):List Nd:=ns.set (ns.length-1) { nd ns (ns.length-1)with done:=(nd ns (ns.length-1)).us.length }
theorem j1r (ns:List Nd):(fixTail ns).length=ns.length:=by simp[fixTail]
theorem jlh {ns:List Nd}{i:Nat}{n:Nd}(j:Nat)(hi:i<ns.length):nd (ns.set i n) j=if i=j then n else nd ns j:=by
 unfold nd;rw[List.getD_eq_getElem?_getD,List.getElem?_set,List.getD_eq_getElem?_getD];by_cases h:i=j
 ·subst h;simp[hi]
 ·simp[h]
theorem jgv {ns ms:List Nd}(h:keys ns=keys ms):keys (fixTail ns)=keys (fixTail ms):=by
 have hl:ns.length=ms.length:=by rw[<- j17 ns,h,j17]
 have hk:=j4r h;refine jn9 (by rw[j1r,j1r,hl]) λi hi=>?_;rw[j1r]at hi;unfold fixTail;rw[jlh i (by omega),jlh i (by omega),hl];by_cases e:ms.length-1=i
 ·rw[if_pos e,if_pos e];exact⟨(hk _).1,(hk _).2.1,by simp only[(hk _).2.1]⟩
 ·rw[if_neg e,if_neg e];exact hk i
def left (ns:List Nd)(g:Nat):List Nd:=fixTail (ns.eraseIdx g)
noncomputable def dropOk (view:Int)(ns:List Nd)(x:Int):Bool:=chainOk view ns&&decide (0<=cplace ns x)&&chainOk (view+1) (left ns (cplace ns x).toNat)
noncomputable def dropNum (view:Int)(ns:List Nd)(x:Int):Int:=if dropOk view ns x=true then view+1 else 0
noncomputable def dropKeys (view:Int)(ns:List Nd)(x:Int):List Key:=if dropOk view ns x=true then keys (left ns (cplace ns x).toNat)else[]
theorem St.take {w0 w:World}:∀(rs X:List Res){L:List Res},L=rs++X->St w0 w L->St w0 w rs
 | [],_,_,rfl,h=>by exact h.below
 | r::rs,X,_,rfl,h=>⟨h.1,h.2.1,λz hz=>h.2.2.1 z (List.mem_append_left X hz),St.take rs X rfl h.2.2.2⟩
def GaveChain (w:World)(num:Int)(ks:List Key)(ok:Bool)(e:Ending)(w':World):Prop:=
 ∃(a:Option Addr) (cap:Nat) (ns:List Nd),e=.returned (.tuple #[.agg #[.int .i64 num,.slice a ns.length cap],.bool ok])/\keys ns=ks/\St w w' (row (.slice a ns.length cap) 60 3 ns.length (ncells ns)::nds ns)
theorem gaveChain {w w':World}{num num':Int}{ks:List Key}{ns:List Nd}{ok ok':Bool}{v:Value}{X:List Res}(h:St w w' (row v 60 3 ns.length (ncells ns)::(nds ns++X)))(hn:num'=num)(hk:keys ns=ks)(ho:ok'=ok):GaveChain w num' ks ok' (.returned (.tuple #[.agg #[.int .i64 num,v],.bool ok])) w':=by
 subst hn;subst ho;obtain⟨a,cap,rfl,_⟩:=j4c h.own;exact⟨a,cap,ns,rfl,hk,St.take (row (.slice a ns.length cap) 60 3 ns.length (ncells ns)::nds ns) X rfl h⟩
theorem gaveNone {w w':World}{num':Int}{ks:List Key}{ok':Bool}{X:List Res}(h:St w w' X)(hn:num'=0)(hk:ks=[])(ho:ok'=false):GaveChain w num' ks ok' (.returned (.tuple #[.agg #[.int .i64 0,.slice none 0 0],.bool false])) w':=by
 subst hn;subst hk;subst ho;exact⟨none,0,[],rfl,rfl,((St.start w).call h.below).nilRow 60 3⟩
theorem jmp {ns:List Nd}{g k:Nat}(hk:k<ns.length)(h:k=g):(ns.take (k+1)).eraseIdx g=(ns.take k).eraseIdx g:=by
 subst h;have hl:(ns.take k).length=k:=by simp;omega
 rw[List.take_succ_eq_append_getElem hk,List.eraseIdx_append_of_length_le (by omega),hl,Nat.sub_self,List.eraseIdx_of_length_le (l:=ns.take k) (by omega)];simp
theorem jmo {ns:List Nd}{g k:Nat}(hk:k<ns.length)(h:k≠g):(ns.take (k+1)).eraseIdx g=(ns.take k).eraseIdx g++[nd ns k]:=by
 rw[List.take_succ_eq_append_getElem hk,j3o hk];have hl:(ns.take k).length=k:=by simp;omega
 by_cases hg:g<k
 ·rw[List.eraseIdx_append_of_lt_length (by omega)]
 ·rw[List.eraseIdx_of_length_le (by simp;omega),List.eraseIdx_of_length_le (by omega)]
theorem j2u (ns ms:List Nd):keys (ns++ms)=keys ns++keys ms:=by simp[keys]
theorem j1u {w0 w:World}{A X:List Res}{O R:Nat}{num:Int}{v:Value}{r:Res}(s:St w0 w (box O #[.int .i64 num,v] 34::r::(A++(box R #[.int .i64 0,.slice none 0 0] 34::X)))) :
  (∀o,w.cell? ⟨O,o,none⟩=(#[.int .i64 num,v]:Array Value)[o]?)/\(∀o,w.cell? ⟨R,o,none⟩=(#[.int .i64 0,.slice none 0 0]:Array Value)[o]?)/\(∀o,w.frozen? ⟨R,o,none⟩=false) /\
  (∀o,((w.setCell ⟨R,0,none⟩ (.int .i64 num)).setCell ⟨R,1,none⟩ v).cell? ⟨R,o,none⟩=(((#[.int .i64 0,.slice none 0 0]:Array Value).setIfInBounds 0 (.int .i64 num)).setIfInBounds 1 v)[o]?) /\
  St w0 ((w.setCell ⟨R,0,none⟩ (.int .i64 num)).setCell ⟨R,1,none⟩ v) (r::(A++X)) /\
  (∀o,((w.setCell ⟨R,0,none⟩ (.int .i64 0)).setCell ⟨R,1,none⟩ (.slice none 0 0)).cell? ⟨R,o,none⟩=(((#[.int .i64 0,.slice none 0 0]:Array Value).setIfInBounds 0 (.int .i64 0)).setIfInBounds 1 (.slice none 0 0))[o]?) /\
  St w0 ((w.setCell ⟨R,0,none⟩ (.int .i64 0)).setCell ⟨R,1,none⟩ (.slice none 0 0)) (r::(A++X)):=by
 have h1:St w0 w (box R #[.int .i64 0,.slice none 0 0] 34::box O #[.int .i64 num,v] 34::r::(A++X)):=s.perm (List.perm_middle (l₁:=box O #[.int .i64 num,v] 34::r::A));have h2:=(h1.set 0 (.int .i64 num)).set 1 v;have h3:=(h1.set 0 (.int .i64 0)).set 1 (.slice none 0 0);exact⟨s.cells.1,h1.cells.1,h1.cells.2,h2.cells.1,h2.drop.drop,h3.cells.1,h3.drop.drop⟩
theorem j1s {w0 w:World}{O:Nat}{cs:Array Value}{t:TypeId}{a:Option Addr}{n cap:Nat}{ms:List Nd}{X:List Res}(h:St w0 w (box O cs t::row (.slice a n cap) 60 3 ms.length (ncells ms)::(nds ms++X)))(hn:n=ms.length):NodesAt w a ms:=by
 subst hn;exact⟨j2z h.drop.own,jfo h (by intro r hr;simp[hr])⟩
theorem gaveFix {w w':World}{num num':Int}{ks:List Key}{ns:List Nd}{ok':Bool}{v:Value}{X:List Res}(h:St w w' (row v 60 3 ns.length (ncells ns)::(nds ns++X)))(hn:num'=num)(hk:keys ns=ks)(ho:ok'=true):GaveChain w num' ks ok' (.returned (.tuple #[.agg #[.int .i64 num,v],.bool true])) w':=gaveChain h hn hk ho
theorem jit (x y r:Res)(A X:List Res):(x::y::r::(A++X)).Perm (x::y::((A++[r])++X)):=by
 refine List.Perm.cons _ (List.Perm.cons _ ?_);rw[List.append_assoc];exact List.perm_middle.symm
theorem jvb (ms:List Nd):nds (fixTail ms)=nds ms:=jc8 rfl
theorem jb1 (view:Int)(a:Option Addr)(cap:Nat)(ns:List Nd)(x:Int)(w:World)(hm:ns.length<=1099511627776)(hs:Short ns 1099511627776)(hx:NodesAt w a ns) :
  Calls tnp 101 #[.agg #[.int .i64 view,.slice a ns.length cap],.int .i64 x] w (GaveChain w (dropNum view ns x) (dropKeys view ns x) (dropOk view ns x)):=by
 have s0:=((St.start w).alloc (.cells #[.int .i64 view,.slice a ns.length cap] 34)).allocAt (.cells #[.int .i64 0,.slice none 0 0] 34) (w.heap.size+1) (by simp);have BAD:=hid (λ(h:dropOk view ns x=false)=>(⟨by rw[dropNum,h];rfl,by rw[dropKeys,h];rfl,h⟩:dropNum view ns x=0/\dropKeys view ns x=[]/\dropOk view ns x=false));cases hv:chainOk view ns with
 | false=>
  have F:=hid (BAD.out (by rw[dropOk,hv];rfl));have HV:=hid hv;clear hv;go_enter Twn.func101,Tryz.ntmps101
  go_wp2_with fail
  refine(jz _ _ _ _ _ hm hs (hx.below s0.below)).mono ?_;rw[HV.out];rintro e w1 ⟨rfl,hb⟩;have s1:=s0.call hb;obtain⟨c1,f1⟩:=s1.cells;have s2:=(s1.set 0 (.int .i64 0)).set 1 (.slice none 0 0);have q2:=s2.cells.1;have FIN:=hid (gaveNone s2 F.out.1 F.out.2.1 F.out.2.2);clear s0 s1 s2 hb;go_wp2_with fail
  exact bodyPost_ret (v:=.tuple #[.agg #[.int .i64 0,.slice none 0 0],.bool false]) (by simp[results,Tryz.results101,go_sem,q2]) rfl FIN.out
 | true=>
  obtain⟨⟨hv0,hv9⟩,⟨hl1,hl5⟩,_,_⟩:=j1c.1 hv;have HV:=hid hv;have CL:=hid (λi hi=>(jm4 hv i hi).2);by_cases hp:0<=cplace ns x
  ·obtain⟨g,hg⟩:=Int.eq_ofNat_of_zero_le hp;have DO:Hid (dropOk view ns x=chainOk (view+1) (left ns g)):=hid (by rw[dropOk,hv,decide_eq_true hp,hg];rfl);have DN:=hid (λ(h:dropOk view ns x=true)=>(⟨by rw[dropNum,h];rfl,by rw[dropKeys,h,hg];rfl,h⟩:dropNum view ns x=view+1/\dropKeys view ns x=keys (left ns g)/\dropOk view ns x=true));have HG:=hid hg;clear hv hp hg;go_enter Twn.func101,Tryz.ntmps101
   go_wp2_with fail
   refine(jz _ _ _ _ _ hm hs (hx.below s0.below)).mono ?_;rw[HV.out];rintro e w1 ⟨rfl,hb⟩;have s1:=s0.call hb;obtain⟨c1,_⟩:=s1.drop.cells;clear s0 hb;go_wp2_with fail
   refine(j29 _ _ _ _ _ _ hm (hx.below s1.below)).mono ?_;rw[HG.out];rintro e w2 ⟨rfl,hb⟩;have s2:=s1.call hb;obtain⟨c2,_⟩:=s2.drop.cells;have l2:=s2.drop.lt.2;have g1:0<=view+1:=by omega
   have g2:view+1<=1000:=by omega
   have s3:=((s2.alloc (.cells #[.int .i64 (view+1),.slice none 0 0] 34)).nilRow 60 3).at1;clear s1 hb c1;go_wp2_with fail
   generalize w2.alloc (.cells #[.int .i64 (view+1),.slice none 0 0] 34 (0,0))=w3 at *;generalize w2.heap.size=O at *;clear s2 c2
   go_loopw [28] (λi wr=>∃(k:Nat) (v:Value) (ms:List Nd),k<=ns.length/\i=.int .i64 k/\ms.length<=k/\keys ms=keys ((ns.take k).eraseIdx g)/\St w wr (box O #[.int .i64 (view+1),v] 34::row v 60 3 ms.length (ncells ms)::(nds ms++(box (w.heap.size+1) #[.int .i64 0,.slice none 0 0] 34::box w.heap.size #[.int .i64 view,.slice a ns.length cap] 34::[])))) (λi _=>ns.length-(intOf i).toNat)
   case atStart=>exact⟨0,_,[],Nat.zero_le _,rfl,Nat.le_refl _,by simp,s3⟩
   case round=>
    clear s3;obtain⟨k,v,ms,hk,rfl,hmk,hkey,s4⟩:=hrel;have HK:=hid hkey;clear hkey;by_cases hlt:k<ns.length
    ·obtain⟨b,off,rfl,c0,c1,c2⟩:=(hx.below s4.below).cells k hlt;have i1:(0:Int)<=(k:Int):=by omega
     have i2:(k:Int)<(ns.length:Int):=by omega
     have ES:=hid (jmp (g:=g) hlt);have EM:=hid (jmo (g:=g) hlt);have hll:=CL.out k hlt;have UX:=hid (λW (h:Below w.heap.size w W)=>((hx.2.below h).at hlt).1);rcases hN:nd ns k with⟨p,y,c,us,q⟩;rw[hN]at c0 c1 c2 EM hll UX;dsimp only at c0 c1 c2 EM hll UX;clear hN;have s5:=s4.alloc (.cells #[.int .i64 p,.slice y us.length c,.int .i64 q] 60);by_cases hkg:k=g
     ·have hkg':((k:Int) != (g:Int))=false:=by simp[hkg]
      have FK:=hid (HK.out.trans (by rw[ES.out hkg]):keys ms=keys ((ns.take (k+1)).eraseIdx g));have FIN:=hid s5.drop;clear s4 s5 hkg;go_wp2_with fail
      go_roundw
      case rel=>exact⟨k+1,v,ms,hlt,by go_num,by omega,FK.out,FIN.out⟩
      case measure=>simp[intOf];omega
     ·have hkg':((k:Int) != (g:Int))=true:=by simp;omega
      clear hkg;have FK:=hid (λy2 c2=>show keys (ms++[(⟨p,y2,c2,us,q⟩:Nd)])=keys ((ns.take (k+1)).eraseIdx g) by rw[EM.out (by intro e;subst e;simp at hkg'),j2u,j2u,HK.out];rfl);go_wp2_with fail
      generalize wr.alloc (.cells #[.int .i64 p,.slice y us.length c,.int .i64 q] 60 (0,0))=w5 at *;generalize wr.heap.size=B at *;clear s4 c0 c1 c2 ES EM;obtain⟨S,hS⟩:=Mix.named (λw'=>w'.cell? ⟨O,1,none⟩=some v/\w'.cell? ⟨B,0,none⟩=some (.int .i64 p)/\w'.cell? ⟨B,1,none⟩=some (.slice y us.length c)/\w'.cell? ⟨B,2,none⟩=some (.int .i64 q));have HS:=hid hS;have e0:=Mix.held_cell (λw h=>((hS w).1 h).1);have e1:=Mix.held_cell (λw h=>((hS w).1 h).2.1);have e2:=Mix.held_cell (λw h=>((hS w).1 h).2.2.1);have e3:=Mix.held_cell (λw h=>((hS w).1 h).2.2.2);clear hS;have SO:=hid (λW rr (hr:box O #[.int .i64 (view+1),v] 34∈rr) (hr2:boxo B (.cells #[.int .i64 p,.slice y us.length c,.int .i64 q] 60 (0,0))∈rr) (s:St w W rr)=>by
       have a0:=cell_of_heap (o:=1) (s.pull hr).boxAt;have a1:=cell_of_heap (o:=0) (s.pull hr2).boxAt;have a2:=cell_of_heap (o:=1) (s.pull hr2).boxAt;have a3:=cell_of_heap (o:=2) (s.pull hr2).boxAt;simp at a0 a1 a2 a3;exact(HS.out W).2 ⟨a0,a1,a2,a3⟩)
      have s6:=s5.drew;refine Mix.start S 7 (by kernel_rfl) ?_;refine Mix.take [0,1,2] 5 (by kernel_rfl) (by kernel_rfl) (by kernel_rfl) (by intro c a a' w e h;exact⟨e.symm.trans h.1,h.2⟩) (SO.out _ _ (by simp) (by simp) s6) ?_;intro hne;simp only[Mix.pickOps,List.filterMap_cons,List.filterMap_nil,List.getElem?_toArray,List.getElem?_cons_zero,List.getElem?_cons_succ];repeat (refine Mix.cons_form ?_;go_big_quiet_step (fail))
      refine wpQuiet_nil ?_;clear hne;refine Mix.step (i:=3) (by kernel_rfl) rfl rfl ?_;go_simp;refine(j3i p q y c us _ (by omega) (UX.out _ s6.below)).mono ?_;rintro e w6 ⟨gl,rfl,ss⟩;have s7:=s6.join ss;simp only[List.cons_append,List.nil_append]at s7;refine And.intro (SO.out _ _ (by simp) (by simp) s7) ?_;go_simp;clear s5 s6 ss;refine Mix.step (i:=4) (by kernel_rfl) rfl rfl ?_;have s8:=s7.alloc (.cells #[.int .i64 p,.slice (some ⟨gl,0,none⟩) us.length us.length,.int .i64 q] 60);go_simp;refine And.intro (SO.out _ _ (by simp) (by simp) s8) ?_;refine Mix.step (i:=5) (by kernel_rfl) rfl rfl ?_;refine jep j3m _ _ (by rfl) w.heap.size v ms.length (ncells ms) (by rfl) w6.heap.size 1 1 (by rfl) #[.int .i64 p,.slice (some ⟨gl,0,none⟩) us.length us.length,.int .i64 q] 60 (0,0) (by rfl) (by simp[Value.oneCell']) (by omega) (by omega) (by omega) (heap_alloc_new w6 _) s8.at4.own s8.size ?_;intro gg cap3 w9 hown hgrow hat hl;have s9:=(s8.at4.app (j1y _ _) hown hgrow hat hl).at4;clear hown hgrow hat hl s7 s8;refine And.intro (.inr (SO.out _ _ (by simp) (by simp) s9)) ?_;go_simp;refine Mix.take [6] 1 (by kernel_rfl) (by kernel_rfl) (by kernel_rfl) (by intro c a a' w e h;exact⟨e.symm.trans h.1,h.2⟩) (SO.out _ _ (by simp) (by simp) s9) ?_;intro hne;simp only[Mix.pickOps,List.filterMap_cons,List.filterMap_nil,List.getElem?_toArray,List.getElem?_cons_zero,List.getElem?_cons_succ];repeat (refine Mix.cons_form ?_;go_big_quiet_step (fail))
      refine wpQuiet_nil ?_;clear hne;refine Mix.step (i:=7) (by kernel_rfl) rfl rfl ?_;obtain⟨d9,f9⟩:=s9.cells;go_simp;refine Mix.done (by kernel_rfl) ?_;have s10:=s9.set 1 (.slice (some ⟨gg,0,none⟩) (ms.length+1) cap3);have s11:=s10.at2.drop.at3.drop.perm (jit _ _ _ _ _);have FIN:=hid s11;clear s9 s10 s11 d9 f9;go_wp2_with fail
      go_roundw
      case rel=>exact⟨k+1,.slice (some ⟨gg,0,none⟩) (ms.length+1) cap3,ms++[⟨p,some ⟨gl,0,none⟩,us.length,us,q⟩],hlt,by go_num,by simp;omega,FK.out _ _,by
       have F:=FIN.out;rw[jat,j20,List.length_append];simpa[logRes,ncells,box]using F⟩
      case measure=>simp[intOf];omega
    ·have hk2:ns.take k=ns:=List.take_of_length_le (by omega);rw[hk2]at HK;obtain⟨a3,cap3,rfl,_⟩:=j4c s4.drop.own;have KF:=hid (jgv HK.out);have KO:Hid (chainOk (view+1) (fixTail ms)=dropOk view ns x):=hid (by rw[DO.out];exact jdr KF.out);have HMK:=hid (show∀n∈ms,n.us.length<=12 from λn hn=>by
      obtain⟨i,hi,rfl⟩:=List.getElem_of_mem hn;have h1:keyOf ms[i]∈keys (ns.eraseIdx g):=by rw[<- HK.out];exact List.mem_map_of_mem (List.getElem_mem hi)
      obtain⟨n',hn',e⟩:=List.mem_map.1 h1;obtain⟨j,hj,rfl⟩:=List.getElem_of_mem (List.mem_of_mem_eraseIdx hn');have h2:=CL.out j hj;rw[j3o hj]at h2;simp only[keyOf,Prod.mk.injEq]at e;rw[<- e.2.1];exact h2)
     have HSM:Hid (Short (fixTail ms) 1099511627776):=hid (by
      unfold fixTail;by_cases h0:ms.length=0
      ·have:ms=[]:=List.eq_nil_of_length_eq_zero h0;subst this;intro n hn;simp at hn
      ·refine ji5 (λn hn=>Nat.le_trans (HMK.out n hn) (by omega)) ?_;rw[j3o (by omega)];have hq:=HMK.out (ms[ms.length-1]'(by omega)) (List.getElem_mem _);exact Nat.le_trans hq (by omega))
     obtain⟨c4,f4⟩:=s4.cells;have hms5:ms.length<=5:=by omega
     clear hk2 hmk;by_cases h0:ms.length=0
     ·have e0:ms=[]:=List.eq_nil_of_length_eq_zero h0;subst e0;have sF:St w wr (box O #[.int .i64 (view+1),.slice a3 0 cap3] 34::row (.slice a3 0 cap3) 60 3 (fixTail []).length (ncells (fixTail []))::(nds (fixTail [])++(box (w.heap.size+1) #[.int .i64 0,.slice none 0 0] 34::box w.heap.size #[.int .i64 view,.slice a ns.length cap] 34::[]))):=s4;clear s4 h0;have CV:=hid (λW (h:NodesAt W a3 (fixTail []))=>jz (view+1) a3 cap3 (fixTail []) W (by rw[j1r];omega) HSM.out h);rw[j1r]at CV;obtain⟨cO,cR,fR,qR,t1,q0,t0⟩:=j1u sF;have HN:=hid (j1s sF (by first|rfl|(rw[j1r])));have LX:=hid sF;clear sF;go_wp2_with fail
      refine(CV.out _ HN.out).mono ?_;rw[KO.out];rintro e w7 ⟨rfl,hb7⟩;have sG:=LX.out.call hb7;clear cO cR fR qR t1 q0 t0 CV;obtain⟨cO,cR,fR,qR,t1,q0,t0⟩:=j1u sG;cases ho:dropOk view ns x with
      | true=>
       have D:=hid (DN.out ho);have FIN:=hid (gaveFix t1 D.out.1 (KF.out.trans D.out.2.1.symm) D.out.2.2);clear sG t1 t0 q0 hb7 ho;go_wp2_with fail
       exact bodyPost_ret (v:=.tuple #[.agg #[.int .i64 (view+1),.slice a3 0 cap3],.bool true]) (by simp[results,Tryz.results101,go_sem,qR]) rfl FIN.out
      | false=>
       have D:=hid (BAD.out ho);have FIN:=hid (gaveNone t0 D.out.1 D.out.2.1 D.out.2.2);clear sG t1 t0 qR hb7 ho;go_wp2_with fail
       exact bodyPost_ret (v:=.tuple #[.agg #[.int .i64 0,.slice none 0 0],.bool false]) (by simp[results,Tryz.results101,go_sem,q0]) rfl FIN.out
     ·obtain⟨gb,capb,e1,_⟩:=s4.drop.own.form (by omega);cases e1;obtain⟨L,hL⟩:∃L,L=ms.length-1:=⟨_,rfl⟩;have hLm:L<ms.length:=by omega
      have eL:(ms.length:Int)-1=(L:Int):=by omega
      have j0:(0:Int)<=(L:Int):=by omega
      have j1:(L:Int)<(ms.length:Int):=by omega
      have j2:(0:Int)<(ms.length:Int):=by omega
      have hlen:=j1a ms;have d1:=s4.drop.own.cellAt (L*3+1) (by omega);rw[(j2a ms L hLm).2.1]at d1;have d2:=s4.drop.own.cellAt (L*3+2) (by omega);rw[(j2a ms L hLm).2.2]at d2;have f2:=s4.drop.own.frozenAt (L*3+2);have hll:(nd ms L).us.length<=12:=by rw[j3o hLm];exact HMK.out _ (List.getElem_mem _)
      have s5:=s4.at1.rowSet (L*3+2) (.int .i64 ((nd ms L).us.length:Nat));rw[j3f ms L _ hLm]at s5;have eF:ms.set L { nd ms L with done:=((nd ms L).us.length:Nat) }=fixTail ms:=by rw[hL];rfl
      rw[eF]at s5;have sF:St w (wr.setCell ⟨gb,L*3+2,none⟩ (.int .i64 ((nd ms L).us.length:Nat))) (box O #[.int .i64 (view+1),.slice (some ⟨gb,0,none⟩) ms.length cap3] 34::row (.slice (some ⟨gb,0,none⟩) ms.length cap3) 60 3 (fixTail ms).length (ncells (fixTail ms))::(nds (fixTail ms)++(box (w.heap.size+1) #[.int .i64 0,.slice none 0 0] 34::box w.heap.size #[.int .i64 view,.slice a ns.length cap] 34::[]))):=by rw[jvb,j1r];exact s5.at1
      generalize(nd ms L).us.length=l at *;clear s4 s5 eF hL hlen h0;go_wp2_with fail
      have CV:=hid (λW (h:NodesAt W (some ⟨gb,0,none⟩) (fixTail ms))=>jz (view+1) (some ⟨gb,0,none⟩) cap3 (fixTail ms) W (by rw[j1r];omega) HSM.out h);rw[j1r]at CV;have HN:=hid (j1s sF (by first|rfl|(rw[j1r])));have LX:=hid sF;clear sF;refine(CV.out _ HN.out).mono ?_;rw[KO.out];rintro e w7 ⟨rfl,hb7⟩;have sG:=LX.out.call hb7;clear CV;obtain⟨cO,cR,fR,qR,t1,q0,t0⟩:=j1u sG;cases ho:dropOk view ns x with
      | true=>
       have D:=hid (DN.out ho);have FIN:=hid (gaveFix t1 D.out.1 (KF.out.trans D.out.2.1.symm) D.out.2.2);clear sG t1 t0 q0 hb7 ho;go_wp2_with fail
       exact bodyPost_ret (v:=.tuple #[.agg #[.int .i64 (view+1),.slice (some ⟨gb,0,none⟩) ms.length cap3],.bool true]) (by simp[results,Tryz.results101,go_sem,qR]) rfl FIN.out
      | false=>
       have D:=hid (BAD.out ho);have FIN:=hid (gaveNone t0 D.out.1 D.out.2.1 D.out.2.2);clear sG t1 t0 qR hb7 ho;go_wp2_with fail
       exact bodyPost_ret (v:=.tuple #[.agg #[.int .i64 0,.slice none 0 0],.bool false]) (by simp[results,Tryz.results101,go_sem,q0]) rfl FIN.out
  ·have F:=hid (BAD.out (by rw[dropOk,decide_eq_false hp];simp));have hp':cplace ns x<0:=by omega
   obtain⟨z,hz⟩:∃z,cplace ns x=z:=⟨_,rfl⟩;rw[hz]at hp';have HZ:=hid hz;clear hv hz hp;go_enter Twn.func101,Tryz.ntmps101
   go_wp2_with fail
   refine(jz _ _ _ _ _ hm hs (hx.below s0.below)).mono ?_;rw[HV.out];rintro e w1 ⟨rfl,hb⟩;have s1:=s0.call hb;obtain⟨c1,_⟩:=s1.drop.cells;clear s0 hb;go_wp2_with fail
   refine(j29 _ _ _ _ _ _ hm (hx.below s1.below)).mono ?_;rw[HZ.out];rintro e w2 ⟨rfl,hb⟩;have s2:=s1.call hb;obtain⟨c2,f2⟩:=s2.cells;have s3:=(s2.set 0 (.int .i64 0)).set 1 (.slice none 0 0);have q3:=s3.cells.1;have FIN:=hid (gaveNone s3 F.out.1 F.out.2.1 F.out.2.2);clear s1 s2 s3 hb c1;go_wp2_with fail
   exact bodyPost_ret (v:=.tuple #[.agg #[.int .i64 0,.slice none 0 0],.bool false]) (by simp[results,Tryz.results101,go_sem,q3]) rfl FIN.out
def ptr:List Nat->Value
 | []=>.pointer none
 | b::_=>.pointer (some ⟨b,0,none⟩)
def lnkCells (n:Nd)(bs:List Nat):Array Value:=#[.int .i64 n.id,.slice n.a n.us.length n.cap,.int .i64 n.done,ptr bs]
def lnks:List Nd->List Nat->List Res
 | n::ns,b::bs=>box b (lnkCells n bs) 134::lnks ns bs
 | _,_=>[]
theorem jqj:∀(ms:List Nd)(bs:List Nat)(k:Nat),bs.length=ms.length->k<ms.length->box (bs.getD k 0) (lnkCells (nd ms k) (bs.drop (k+1))) 134∈lnks ms bs
 | [],_,_,_,h=>by simp at h
 | _::_,[],_,h,_=>by simp at h
 | n::ns,b::bs,0,_,_=>by simp[lnks,nd]
 | n::ns,b::bs,k+1,h,hk=>by
  have:=jqj ns bs k (by simpa using h) (by simpa using hk);simp only[lnks,List.mem_cons];right;simpa[nd]using this
def LinksAt (w:World)(ms:List Nd)(bs:List Nat):Prop:=
 (bs.length=ms.length/\bs.Nodup)/\∀k,k<ms.length->∀o,w.cell? ⟨bs.getD k 0,o,none⟩=(lnkCells (nd ms k) (bs.drop (k+1)))[o]?
theorem St.nodup {w0 w:World}:∀{rs:List Res},St w0 w rs->(rs.filterMap Res.blk).Nodup
 | [],_=>by simp
 | r::rs,h=>by
  have ih:=St.nodup h.2.2.2;rw[List.filterMap_cons];cases hb:r.blk with
  | none=>exact ih
  | some b=>
   rw[List.nodup_cons];refine⟨λhm=>?_,ih⟩;obtain⟨z,hz,e⟩:=List.mem_filterMap.1 hm;rcases h.2.2.1 z hz with h1|h1
   ·rw[hb]at h1;cases h1
   ·exact h1 (by rw[hb,e])
theorem jlf:∀(ms:List Nd)(bs:List Nat),bs.length=ms.length->(lnks ms bs).filterMap Res.blk=bs
 | [],[],_=>rfl
 | [],_::_,h=>by simp at h
 | _::_,[],h=>by simp at h
 | n::ns,b::bs,h=>by
  have:=jlf ns bs (by simpa using h);simp only[lnks,List.filterMap_cons];show b::_=_;rw[this]
theorem jx8 {bs:List Nat}(h:bs.Nodup){k:Nat}(hk:k<bs.length):bs.idxOf (bs.getD k 0)=k:=by
 have e:bs.getD k 0=bs[k]:=by simp[hk]
 rw[e];exact h.idxOf_getElem k hk
theorem jle {w0 w:World}{rs:List Res}{X:List Res}{ms:List Nd}{bs:List Nat}(h:St w0 w rs)(hl:bs.length=ms.length)(hr:rs=lnks ms bs++X):LinksAt w ms bs:=
 ⟨⟨hl,by
  have:=(h.take (lnks ms bs) X hr).nodup;rwa[jlf ms bs hl]at this⟩,λk hk o=>cell_of_heap (h.pull (by rw[hr];exact List.mem_append_left _ (jqj ms bs k hl hk))).boxAt⟩
theorem LinksAt.below {w w':World}{ms:List Nd}{bs:List Nat}(h:LinksAt w ms bs)(hb:Below w.heap.size w w'):LinksAt w' ms bs:=
 ⟨h.1,λk hk o=>by
  have h0:=h.2 k hk 0;have e:(lnkCells (nd ms k) (bs.drop (k+1)))[0]?=some (.int .i64 (nd ms k).id):=rfl;rw[hb.cell (p:=⟨bs.getD k 0,o,none⟩) (by exact jo (h0.trans e))];exact h.2 k hk o⟩
theorem jav {bs:List Nat}{k:Nat}(h:k<bs.length):ptr (bs.drop k)=.pointer (some ⟨bs.getD k 0,0,none⟩):=by
 rw[List.drop_eq_getElem_cons h];simp[ptr,h]
theorem jk1 {bs:List Nat}{k:Nat}(h:bs.length<=k):ptr (bs.drop k)=.pointer none:=by
 rw[List.drop_of_length_le h];rfl
def toEnd (bs:List Nat)(p:Value):Nat:=match p with
 | .pointer (some ad)=>bs.length-bs.idxOf ad.block
 | _=>0
theorem jfz {bs:List Nat}(h:bs.Nodup){k:Nat}(hk:k<bs.length):toEnd bs (.pointer (some ⟨bs.getD k 0,0,none⟩))=bs.length-k:=by
 show bs.length-bs.idxOf (bs.getD k 0)=_;rw[jx8 h hk]
theorem jen {bs:List Nat}(h:bs.Nodup)(k:Nat):toEnd bs (ptr (bs.drop k))=bs.length-k:=by
 by_cases hk:k<bs.length
 ·rw[jav hk,jfz h hk]
 ·rw[jk1 (by omega)];show 0=_;omega
theorem jnb (ms:List Nd)(bs:List Nat)(w:World)(h0:0<ms.length)(hl:LinksAt w ms bs) :
  Calls tnp 119 #[ptr bs] w λe w'=>e=.returned (.pointer (some ⟨bs.getD (ms.length-1) 0,0,none⟩))/\w=w':=by
 have hlen:=hl.1.1;have ND:=hid hl.1.2;have hp:ptr bs=.pointer (some ⟨bs.getD 0 0,0,none⟩):=by have:=jav (bs:=bs) (k:=0) (by omega);simpa using this
 have CC:=hid hl.2;rw[hp];clear hp hl;go_enter Twn.func119,Tryz.ntmps119
 go_wp2_with fail
 go_loop [0] (λp=>∃k:Nat,k<ms.length/\p=.pointer (some ⟨bs.getD k 0,0,none⟩)) (λp=>toEnd bs p)
 case atStart=>exact⟨0,h0,rfl⟩
 case round=>
  obtain⟨k,hk,rfl⟩:=hrel;have M0:=hid (jfz ND.out (show k<bs.length by omega));have c:w.cell? ⟨bs.getD k 0,3,none⟩=some (ptr (bs.drop (k+1))):=CC.out k hk 3;by_cases hlt:k+1<ms.length
  ·rw[jav (by omega)]at c;have M1':=(jfz ND.out (show k+1<bs.length by omega));have M1:=M1';clear M1';obtain⟨b1,hb1⟩:∃b1,bs.getD (k+1) 0=b1:=⟨_,rfl⟩;have H1:=hid hb1;rw[hb1]at c M1;have HM1:=hid M1;clear hb1 M1;generalize bs.getD k 0=b0 at *;go_wp2_with fail
   go_round
   case rel=>exact⟨k+1,hlt,by rw[H1.out]⟩
   case measure=>rw[M0.out,HM1.out];omega
  ·rw[jk1 (by omega)]at c;have E:=hid (show bs[ms.length-1]?.getD 0=bs.getD k 0 by rw[show ms.length-1=k by omega,List.getD_eq_getElem?_getD]);generalize bs.getD k 0=b0 at *;go_wp2_with fail
   go_ret
   exact⟨by rw[E.out];rfl,rfl⟩
theorem jjw (ms:List Nd)(bs:List Nat)(w:World)(hm:ms.length<=1000)(hl:LinksAt w ms bs) :
  Calls tnp 121 #[ptr bs] w λe w'=>∃v,e=.returned v/\St w w' [row v 60 3 ms.length (ncells ms)]:=by
 have hlen:=hl.1.1;have ND:=hid hl.1.2;have LB:=hid (λW (h:Below w.heap.size w W)=>(hl.below h).2);have s0:=((St.start w).alloc (.cells #[] 60)).madeRow 3 0 rfl (by simp[maxLen]) 0 (Nat.le_refl _);have P0:Hid (ptr bs=ptr (bs.drop 0)):=hid (by simp);clear hl;generalize hp0:ptr bs=p0 at *;clear hp0;go_enter Twn.func121,Tryz.ntmps121
 go_wp2_with fail
 go_loopw [0,3] (λp v wr=>∃k:Nat,k<=ms.length/\p=ptr (bs.drop k)/\St w wr [row v 60 3 (ms.take k).length (ncells (ms.take k))]) (λp _ _=>toEnd bs p)
 case atStart=>exact⟨0,Nat.zero_le _,P0.out,by simpa[ncells]using s0⟩
 case round=>
  clear s0;obtain⟨k,hk,rfl,s1⟩:=hrel;have M0:=hid (jen ND.out k);by_cases hlt:k<ms.length
  ·have CL:=LB.out _ s1.below k hlt;have c0:wr.cell? ⟨bs.getD k 0,0,none⟩=some (.int .i64 (nd ms k).id):=CL 0;have c1:wr.cell? ⟨bs.getD k 0,1,none⟩=some (.slice (nd ms k).a (nd ms k).us.length (nd ms k).cap):=CL 1;have c2:wr.cell? ⟨bs.getD k 0,2,none⟩=some (.int .i64 (nd ms k).done):=CL 2;have c3:wr.cell? ⟨bs.getD k 0,3,none⟩=some (ptr (bs.drop (k+1))):=CL 3;have hbl:=jo c0;have M1:=hid (jen ND.out (k+1));have SN:Hid (ms.take (k+1)=ms.take k++[nd ms k]):=hid (by rw[List.take_succ_eq_append_getElem hlt,j3o hlt]);have NN:Hid (ncells [nd ms k]=[.int .i64 (nd ms k).id,.slice (nd ms k).a (nd ms k).us.length (nd ms k).cap,.int .i64 (nd ms k).done]):=hid rfl;have hkl:(ms.take k).length<=1000:=by simp;omega
   have PD:=jav (bs:=bs) (k:=k) (by omega);rw[PD]at M0 ⊢;have CB:=hid (λW (h:Below w.heap.size w W)=>show W.cell? ⟨bs.getD k 0,3,none⟩=some (ptr (bs.drop (k+1)))from LB.out W h k hlt 3);generalize hpn:ptr (bs.drop (k+1))=pn at *;have HP:=hid hpn;generalize hb0:bs.getD k 0=b0 at *;clear CL PD hb0 hpn;have o1:=s1.own;have lR:=s1.size;go_wp2_with ((at_builtin;refine j36 j3m (by rfl) _ _ (by rfl) w.heap.size _ (ms.take k).length (ncells (ms.take k)) (by rfl) wr.heap.size 1 1 (by rfl) #[.int .i64 (nd ms k).id,.slice (nd ms k).a (nd ms k).us.length (nd ms k).cap,.int .i64 (nd ms k).done] 60 (0,0) (by rfl) (by simp[Value.oneCell']) (by omega) (by omega) (by omega) (heap_alloc_new wr _) (o1.alloc _) (by simp;omega) ?_);intro gg cap3 w7 hown hgrow hat hl;have s7:=(s1.app (World.grownBy_alloc _ _ none) hown hgrow hat hl);have c7:=CB.out _ s7.below)
   go_roundw
   case rel=>exact⟨k+1,hlt,HP.out.symm,by
    rw[SN.out,j20,NN.out];have hmin:min k ms.length=k:=by omega
    simpa[hmin]using s7⟩
   case measure=>rw[M0.out,M1.out];omega
  ·have PE:=jk1 (bs:=bs) (k:=k) (by omega);rw[PE];clear PE M0;have hk':ms.take k=ms:=List.take_of_length_le (by omega);rw[hk']at s1;go_wp2_with fail
   go_ret
   exact⟨_,rfl,s1⟩
end Go.Proofs.T
