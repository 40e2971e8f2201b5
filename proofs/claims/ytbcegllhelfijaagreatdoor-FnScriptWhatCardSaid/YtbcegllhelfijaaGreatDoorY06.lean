/-
  A part of the proof.
-/
import Derived.Laws.IdiomCopy
import Derived.Conc.Walk
import Derived.Conc.WalkWords
import Derived.WalkKit
import Derived.Test.YtbcegllhelfijaaGreatDoorY05
set_option linter.all false
set_option maxRecDepth 100000
set_option maxHeartbeats 8000000
namespace Go.Proofs.Mn
open Go Go.Conc
structure Hp (w0:World)(bs:Array Obj)(w:World):Prop where
 heap:w.heap=w0.heap++bs
 tape:w.tape=w0.tape
 os:w.os=w0.os
 output:w.output=w0.output
section
variable {w0 w wz:World}{bs:Array Obj}
theorem Hp.start (w:World):Hp w #[] w:=⟨by simp,rfl,rfl,rfl⟩
theorem Hp.size (h:Hp w0 bs w):w.heap.size=w0.heap.size+bs.size:=by rw[h.heap];simp
theorem Hp.get (h:Hp w0 bs w)(k:Nat):w.heap[w0.heap.size+k]?=bs[k]?:=by
 rw[h.heap,Array.getElem?_append_right (by omega)];congr 1;omega
theorem Hp.old (h:Hp w0 bs w){b:Nat}(hb:b<w0.heap.size):w.heap[b]?=w0.heap[b]?:=by rw[h.heap,Array.getElem?_append_left hb]
theorem Hp.alloc (h:Hp w0 bs w)(o:Obj):Hp w0 (bs.push o) (w.alloc o):=⟨by show w.heap.push o=_;rw[h.heap];simp,h.tape,h.os,h.output⟩
theorem Hp.cell (h:Hp w0 bs w){k off:Nat}{c:Array Value}{t:TypeId}{fr:Nat×Nat}(hk:bs[k]?=some (.cells c t fr)):w.cell? ⟨w0.heap.size+k,off,none⟩=c[off]?:=by
 have:=(h.get k).trans hk;simp[World.cell?,this]
theorem Hp.frozen (h:Hp w0 bs w){k off:Nat}{c:Array Value}{t:TypeId}(hk:bs[k]?=some (.cells c t (0,0))):w.frozen? ⟨w0.heap.size+k,off,none⟩=false:=by
 have:=(h.get k).trans hk;simp[World.frozen?,this]
theorem jfn (A B:Array Obj)(k:Nat)(f:Obj->Obj):(A++B).modify (A.size+k) f=A++B.modify k f:=by
 apply Array.ext_getElem?;intro i;rw[Array.getElem?_modify];by_cases hi:i<A.size
 ·rw[Array.getElem?_append_left hi,if_neg (by omega),Array.getElem?_append_left hi]
 ·rw[Array.getElem?_append_right (by omega),Array.getElem?_append_right (by omega),Array.getElem?_modify];by_cases e:k=i-A.size
  ·rw[if_pos (by omega),if_pos e]
  ·rw[if_neg (by omega),if_neg e]
theorem jqm {bs:Array Obj}{k:Nat}{f:Obj->Obj}{o:Obj}(hk:bs[k]?=some o):bs.modify k f=bs.setIfInBounds k (f o):=by
 have hlt:=(Array.getElem?_eq_some_iff.1 hk).1;apply Array.ext_getElem?;intro i;rw[Array.getElem?_modify,Array.getElem?_setIfInBounds];by_cases e:k=i
 ·subst e;have e2:bs[k]=o:=by rw[Array.getElem?_eq_getElem hlt]at hk;exact Option.some.inj hk
  simp[hlt,e2]
 ·simp[e]
theorem Hp.set (h:Hp w0 bs w){k off:Nat}{c:Array Value}{t:TypeId}{fr:Nat×Nat}(hk:bs[k]?=some (.cells c t fr))(v:Value) :
  Hp w0 (bs.setIfInBounds k (.cells (c.setIfInBounds off v) t fr)) (w.setCell ⟨w0.heap.size+k,off,none⟩ v):=by
 refine⟨?_,h.tape,h.os,h.output⟩;simp only[World.setCell];rw[h.heap,jfn,jqm hk];simp
theorem Hp.setCells:∀(vs:List Value)(o:Nat){w:World}{bs:Array Obj}{k:Nat}{c:Array Value}{t:TypeId}{fr:Nat×Nat},Hp w0 bs w->bs[k]?=some (.cells c t fr) ->
  ∃c':Array Value,c'.size=c.size/\(∀v∈c',v∈vs\/v∈c)/\Hp w0 (bs.setIfInBounds k (.cells c' t fr)) (w.setCells (w0.heap.size+k) o vs)
 | [],o,w,bs,k,c,t,fr,h,hk=>by
  refine⟨c,rfl,λv hv=>.inr hv,?_⟩;have:bs.setIfInBounds k (.cells c t fr)=bs:=by
   apply Array.ext_getElem?;intro i;rw[Array.getElem?_setIfInBounds];have hlt:=(Array.getElem?_eq_some_iff.1 hk).1;by_cases e:k=i
   ·subst e;have e2:bs[k]=.cells c t fr:=by rw[Array.getElem?_eq_getElem hlt]at hk;exact Option.some.inj hk
    simp[hlt,e2]
   ·simp[e]
  rw[this];exact h
 | v::r,o,w,bs,k,c,t,fr,h,hk=>by
  have h1:=h.set (off:=o) hk v;have hlt:=(Array.getElem?_eq_some_iff.1 hk).1;obtain⟨c',h2,hm,h3⟩:=Hp.setCells r (o+1) h1 (k:=k) (c:=c.setIfInBounds o v) (t:=t) (fr:=fr) (by rw[Array.getElem?_setIfInBounds];simp[hlt]);refine⟨c',by simpa using h2,λu hu=>?_,?_⟩
  ·rcases hm u hu with h|h
   ·exact .inl (List.mem_cons_of_mem _ h)
   ·rcases Array.mem_or_eq_of_mem_setIfInBounds h with h|h
    ·exact .inr h
    ·exact .inl (by simp[h])
  have e:(bs.setIfInBounds k (.cells (c.setIfInBounds o v) t fr)).setIfInBounds k (.cells c' t fr)=bs.setIfInBounds k (.cells c' t fr):=by simp
  rw[e]at h3;exact h3
end
section
variable [Atom]{P:Program}{X:Nat->Prop}{w:World}{a:Addr}
theorem Hp.cw {w0:World}{bs:Array Obj}(h:Hp w0 bs w)(hf:∀b,w0.heap.size<=b->X b)(hC:CW X w0):CW X w:=
 ⟨λb o ho hb=>by
  have hlt:b<w0.heap.size:=Nat.lt_of_not_le λhle=>hb (hf b hle);rw[h.old hlt]at ho;exact hC.obj b o ho hb⟩
theorem jtf (hC:CW X w)(ha:¬X a.block):(∃v,CV X v/\∀τ d,(load a).run P (w.on τ d)=.ok v (w.on τ d))\/∃h w',Dead h/\(load a).run P w=.halt h w':=by
 have e:∀w:World,(load a).run P w=(match w.cell? a with|some v=>.ok v w|none=>match w.farLoad P a (Mode.plain==Mode.atomic)with|.ok r=>.ok r.1 w|.error h=>.halt h w:Result Value):=λw=>by
  simp only[load,Sem.run];cases w.cell? a with
  | some v=>rfl
  | none=>
   simp only;cases w.farLoad P a (Mode.plain==Mode.atomic)<;>rfl
 cases hc:w.cell? a with
 | some v=>
  refine .inl ⟨v,(hC.cell ha hc).1,λτ d=>?_⟩;rw[e,show(w.on τ d).cell? a=w.cell? a from rfl,hc]
 | none=>
  cases hf:w.farLoad P a (Mode.plain==Mode.atomic)with
  | error h=>
   refine .inr ⟨h,w,j7x hC ha hf,?_⟩;rw[e,hc];simp only[hf]
  | ok r=>
   refine .inl ⟨r.1,(j90 (v:=r.1) (l:=r.2) hC ha hf).1,λτ d=>?_⟩;rw[e,show(w.on τ d).cell? a=w.cell? a from rfl,hc];simp only;rw[show(w.on τ d).farLoad P a (Mode.plain==Mode.atomic)=w.farLoad P a (Mode.plain==Mode.atomic)from rfl,hf]
theorem jc5 (hC:CW X w)(ha:¬X a.block):∀(n i:Nat)(acc:Array Value),(∀v∈acc,CV X v)->(∃cs:Array Value,(∀τ d,(loadCellsFrom a i n acc).run P (w.on τ d)=.ok cs (w.on τ d))/\cs.size=acc.size+n/\∀v∈cs,CV X v)\/∃h w',Dead h/\(loadCellsFrom a i n acc).run P w=.halt h w'
 | 0,i,acc,hacc=>.inl ⟨acc,λ_ _=>rfl,rfl,hacc⟩
 | n+1,i,acc,hacc=>by
  unfold loadCellsFrom;rcases jtf (P:=P) (a:=a.add i) hC (by rw[j2r];exact ha)with⟨v,hcv,hv⟩|⟨h,w',hd,hv⟩
  ·rcases jc5 hC ha n (i+1) (acc.push v) (jj5 hacc hcv)with⟨cs,h1,h2,h3⟩|⟨h,w',hd,h1⟩
   ·refine .inl ⟨cs,λτ d=>?_,by rw[h2,Array.size_push];omega,h3⟩;rw[Sem.run_bind,hv];simp only[Result.andThen_ok];exact h1 τ d
   ·refine .inr ⟨h,w',hd,?_⟩;have:=hv w.tape w.drawn;rw[show w.on w.tape w.drawn=w from rfl]at this;rw[Sem.run_bind,this];exact h1
  ·rw[Sem.run_bind,hv];exact .inr ⟨h,w',hd,rfl⟩
theorem jri {P:Program}{w:World}{a:Addr}{v:Value}(h:v.oneCell'=false):∃hh w',Dead hh/\(store a v).run P w=.halt hh w':=by
 cases v with
 | agg cs=>exact⟨_,w,.inr ⟨_,rfl⟩,rfl⟩
 | tuple cs=>exact⟨_,w,.inr ⟨_,rfl⟩,rfl⟩
 | _=>cases h
theorem j9o {P:Program}{g:Nat}{t:TypeId}:∀(vs:List Value)(i:Nat)(cur:Array Value)(w:World),w.heap[g]?=some (.cells cur t (0,0))->i+vs.length<=cur.size ->
  ((storeCells ⟨g,0,none⟩ vs i).run P w=.ok () (w.setCells g i vs)/\∀v∈vs,v.oneCell'=true)\/∃h w',Dead h/\(storeCells ⟨g,0,none⟩ vs i).run P w=.halt h w'
 | [],i,cur,w,hg,hl=>.inl ⟨rfl,by simp⟩
 | v::r,i,cur,w,hg,hl=>by
  simp only[List.length_cons]at hl;have hadd:(⟨g,0,none⟩:Addr).add i=⟨g,i,none⟩:=by unfold Addr.add;split<;>simp_all
  unfold storeCells;rw[Sem.run_bind,hadd];cases h1:v.oneCell' with
  | false=>
   obtain⟨hh,w',hd,hr⟩:=jri (P:=P) (w:=w) (a:=⟨g,i,none⟩) h1;rw[hr];exact .inr ⟨hh,w',hd,rfl⟩
  | true=>
   have hc:w.cell? ⟨g,i,none⟩=some cur[i]:=by
    simp[World.cell?,hg,Array.getElem?_eq_getElem (show i<cur.size by omega)]
   have hf:w.frozen? ⟨g,i,none⟩=false:=by simp[World.frozen?,hg]
   have hst:(store ⟨g,i,none⟩ v).run P w=.ok () (w.setCell ⟨g,i,none⟩ v):=by
    rw[run_store P w _ v _ h1];simp[hc,hf]
   rw[hst];simp only[Result.andThen_ok];have hg1:(w.setCell ⟨g,i,none⟩ v).heap[g]?=some (.cells (cur.setIfInBounds i v) t (0,0)):=by
    simp[World.setCell,Array.getElem?_modify,hg]
   rcases j9o r (i+1) _ _ hg1 (by simp;omega)with⟨h2,h3⟩|⟨hh,w',hd,h2⟩
   ·exact .inl ⟨h2,by simpa[h1]using h3⟩
   ·exact .inr ⟨hh,w',hd,h2⟩
theorem jkw (hC:CW X w){dT sT ty elem:TypeId}{g n dc sc:Nat}{sp:Option Addr}{cur:Array Value}{t:TypeId}(hu:P.underlying dT=some (.slice elem))(hs:∀w,(sizeOf elem).run P w=.ok 2 w)
  (hg:w.heap[g]?=some (.cells cur t (0,0)))(hcur:cur.size=n*2)(hsp:∀a,sp=some a->¬X a.block) :
  (∃cs:List Value,(∀v∈cs,CV X v)/\∀τ d,(Builtin.copy_ #[dT,sT] ty #[.slice (some ⟨g,0,none⟩) n dc,.slice sp n sc]).run P (w.on τ d)=.ok (goInt n) ((w.on τ d).setCells g 0 cs)) \/
   ∃h w',Dead h/\(Builtin.copy_ #[dT,sT] ty #[.slice (some ⟨g,0,none⟩) n dc,.slice sp n sc]).run P w=.halt h w':=by
 cases sp with
 | none=>
  refine .inl ⟨[],by simp,λτ d=>?_⟩;simp[Builtin.copy_,run_underlying hu,Builtin.lenOf,Builtin.firstCells,hs,storeCells,World.setCells]
 | some a=>
  rcases jc5 (P:=P) hC (hsp a rfl) (n*2) 0 #[] (by simp)with⟨cs,h1,h2,hcl⟩|⟨h,w',hd,h1⟩
  ·have h1':∀τ d,(loadCells a (n*2)).run P (w.on τ d)=.ok cs (w.on τ d):=h1;have hl:0+cs.toList.length<=cur.size:=by simp at h2 ⊢;omega
   by_cases hall:∀v∈cs.toList,v.oneCell'=true
   ·refine .inl ⟨cs.toList,by simpa using hcl,λτ d=>?_⟩;have h3:(storeCells ⟨g,0,none⟩ cs.toList 0).run P (w.on τ d)=.ok () ((w.on τ d).setCells g 0 cs.toList):=by
     have:=run_storeCells_cells (P:=P) g 0 cs.toList 0 (w.on τ d) (λj hj=>by
      rw[show(w.on τ d).cell? ⟨g,0+0+j,none⟩=w.cell? ⟨g,0+0+j,none⟩from rfl];simp[World.cell?,hg];omega) (λj hj=>by
      rw[show(w.on τ d).frozen? ⟨g,0+0+j,none⟩=w.frozen? ⟨g,0+0+j,none⟩from rfl];simp[World.frozen?,hg]) hall
     simpa using this
    simp[Builtin.copy_,run_underlying hu,Builtin.lenOf,Builtin.firstCells,hs,h1',h3]
   ·have h0:=h1' w.tape w.drawn;rw[show w.on w.tape w.drawn=w from rfl]at h0;rcases j9o (P:=P) cs.toList 0 cur w hg hl with⟨_,h4⟩|⟨h,w',hd,h3⟩
    ·exact absurd h4 hall
    ·refine .inr ⟨h,w',hd,?_⟩;simp[Builtin.copy_,run_underlying hu,Builtin.lenOf,Builtin.firstCells,hs,h0,h3,Result.andThen]
  ·have h1':(loadCells a (n*2)).run P w=.halt h w':=h1;refine .inr ⟨h,w',hd,?_⟩;simp[Builtin.copy_,run_underlying hu,Builtin.lenOf,Builtin.firstCells,hs,h1',Result.andThen]
theorem j9y (hC:CW X w)(ha:¬X a.block){t:TypeId}(hi:∀w,(isAgg t).run P w=.ok true w)(hs:∀w,(sizeOf t).run P w=.ok 2 w) :
  (∃x y,CV X x/\CV X y/\∀τ d,(loadVar t a).run P (w.on τ d)=.ok (.agg #[x,y]) (w.on τ d))\/∃h w',Dead h/\(loadVar t a).run P w=.halt h w':=by
 rcases jc5 (P:=P) hC ha 2 0 #[] (by simp)with⟨cs,h1,h2,hcl⟩|⟨h,w',hd,h1⟩
 ·have h1':∀τ d,(loadCells a 2).run P (w.on τ d)=.ok cs (w.on τ d):=h1;obtain⟨l⟩:=cs
  match l,h2,hcl with
  | [x,y],_,hcl=>exact .inl ⟨x,y,hcl x (by simp),hcl y (by simp),λτ d=>by simp[loadVar,hi,hs,h1']⟩
 ·have h1':(loadCells a 2).run P w=.halt h w':=h1;exact .inr ⟨h,w',hd,by simp[loadVar,hi,hs,h1',Result.andThen]⟩
end
section
variable {P:Program}{Stop:Goroutine->World->Prop}
inductive LW (P:Program)(Stop:Goroutine->World->Prop):Goroutine->World->Prop
 | stop {g:Goroutine} {w:World}:Stop g w->LW P Stop g w
 | step {g g1:Goroutine} {w w1:World} {es:Array Event}:g.callers≠[]->stepG P true g w=.go g1 w1 es->LW P Stop g1 w1->LW P Stop g w
theorem LW.go {g:Goroutine}{w:World}(hc:g.callers≠[])(h:(stepG P true g w).goes λg1 w1 _=>LW P Stop g1 w1):LW P Stop g w:=by
 cases hs:stepG P true g w with
 | go g1 w1 es=>rw[hs,goes_go]at h;exact .step hc hs h
 | _=>rw[hs]at h;exact h.elim
variable [Atom]
theorem LW.star {f:FuncId}{R:Value->World->Prop}{g:Goroutine}{w:World}(h:LW P Stop g w):∃s',StarL P s' (g,w)/\Stop s'.1 s'.2:=by
 induction h with
 | stop h=>exact⟨_,.refl,h⟩
 | @step g g1 w w1 es hc hs _ ih=>
  obtain⟨s',h1,h2⟩:=ih;refine⟨s',.step ⟨w.tape,w.drawn,es,?_⟩ h1,h2⟩;unfold stepL;rw[if_neg λhl=>hc hl.1];exact hs
def Bad (P:Program)(g:Goroutine)(w:World):Prop:=g.callers≠[]/\∀g1 w1 es,stepG P true g w≠.go g1 w1 es
theorem Bad.no {f:FuncId}{R:Value->World->Prop}{g:Goroutine}{w:World}(hb:Bad P g w)(hT:Term (stepL P) (FinL P f R) g w):False:=by
 obtain⟨_,hg⟩:=Term.goes (s:=(g,w)) hT λhf=>hb.1 hf.1;obtain⟨g1,w1,es,hs,_⟩:=hg w.tape w.drawn;exact hb.2 _ _ _ hs
theorem j54 {b:Frame}{a:Act}{k:List Item}{cs:List Frame}{w w':World}{ops:Array Oper}{i:Nat}{rest:List Nat}{o:Oper}{h:Halt}(hcs:cs≠[])
  (ho:ops[i]?=some o)(hw:Region.wanted o (yielded ops a.tmps)=true)(hr:(execOp a.eval o).run P w=.halt h w')(hd:Dead h)(hro:b.roundOf=none):Bad P (G (b.at a (.inRegion ops (i::rest)::k)) cs) w:=by
 refine⟨hcs,λg1 w1 es e=>?_⟩;rw[stepG_oper ho hw]at e;rw[<- Sem.runT_fst (es:=#[])]at hr;unfold stepG.apply at e;generalize(execOp a.eval o).runT P w #[]=r at hr e;obtain⟨r,es1⟩:=r;simp only at hr;subst hr;simp only[if_true]at e;rcases hd with⟨u,rfl,hu⟩|⟨s,rfl⟩
 ·cases u<;>first|exact hu _ rfl|(simp[GStep.after]at e)
 ·simp[GStep.after]at e
end
open Go Go.Conc Go.RowKit
section
variable {P:Program}
theorem jgu {W sl:TypeId}{fs:Array Field}{f:Field}{k:Nat}(hu:P.underlying W=some (.struct fs))(hf:fs[k]?=some f)(ht:f.type=sl)(hi:∀w,(isAgg sl).run P w=.ok false w)(v:Value) :
  (∃C s,v=.agg C/\C[f.offset]?=some s/\∀w,(Instr.field W v k).run P w=.ok s w)\/∃h,Dead h/\∀w,(Instr.field W v k).run P w=.halt h w:=by
 subst ht;have hs:∀C,(∃s,C[f.offset]?=some s/\∀w,(part f.type C f.offset).run P w=.ok s w)\/∃h,Dead h/\∀w,(part f.type C f.offset).run P w=.halt h w:=λC=>by
  cases hc:C[f.offset]? with
  | none=>exact .inr ⟨_,.inr ⟨_,rfl⟩,λw=>by simp[part,hi,hc];rfl⟩
  | some s=>exact .inl ⟨s,rfl,λw=>by simp[part,hi,hc]⟩
 cases v with
 | agg C=>
  rcases hs C with⟨s,h1,h2⟩|⟨h,hd,h2⟩
  ·exact .inl ⟨C,s,rfl,h1,λw=>by simp[Instr.field,run_underlying hu,hf,asAgg,h2]⟩
  ·exact .inr ⟨h,hd,λw=>by simp[Instr.field,run_underlying hu,hf,asAgg,h2]⟩
 | _=>exact .inr ⟨.stuck _,.inr ⟨_,rfl⟩,λw=>by simp[Instr.field,run_underlying hu,hf,asAgg,Result.andThen];rfl⟩
theorem jqb {sl e ty:TypeId}(hu:P.underlying sl=some (.slice e))(v:Value) :
  (∃a n c,v=.slice a n c/\∀w,(Builtin.len_ #[sl] ty #[v]).run P w=.ok (goInt n) w)\/∃h,Dead h/\∀w,(Builtin.len_ #[sl] ty #[v]).run P w=.halt h w:=by
 cases v with
 | slice a n c=>exact .inl ⟨a,n,c,rfl,λw=>by simp[Builtin.len_,run_underlying hu]⟩
 | _=>exact .inr ⟨.stuck _,.inr ⟨_,rfl⟩,λw=>by simp[Builtin.len_,run_underlying hu];rfl⟩
end
theorem j4v {P:Program}{b:Frame}{a:Act}{k:List Item}{cs:List Frame}{w:World}{why:String}(hcs:cs≠[]):Bad P (G (b.at a (.code (.refuse why)::k)) cs) w:=
 ⟨hcs,λg1 w1 es e=>by simp[G,stepG,stepG.exec,Frame.at]at e⟩
theorem js {α:Type}{l:List α}{n:Nat}(h:n+1<=l.length):∃x t,l=x::t/\n<=t.length:=by
 cases l with
 | nil=>simp at h
 | cons x t=>exact⟨x,t,rfl,by simpa using h⟩
structure PassF (v0 v1:Value)(C0 C1:Array Value)(a1:Addr)(n1 c1:Nat)(sp:Option Addr)(n c:Nat):Prop where
 e0:v0=.agg C0
 e1:v1=.agg C1
 l0:C0[1]?=some (.slice (some a1) n1 c1)
 l1:C1[1]?=some (.slice sp n c)
 lt:n<n1
 le:n<13
theorem jhp [Atom]{Stop:Goroutine->World->Prop}(hbad:∀g w,Bad tnp g w->Stop g w){b:Frame}{cs:List Frame}(hcs:cs≠[])(hbk:b.kind≠.early)(hro:b.roundOf=none)(w0:World)(v0 v1 u2 u3 u4 u5 u6 u7 u8 u9 u10 u11 u12 u13 u14 u15 u16 u17 u18 u19 u20 u21 u22 u23 u24 u25 u26 u27 u28 u29 u30 u31 u32 u33 u34 u35 u36 u37 u38 u39:Value)(R:List Value)
  (hgo:∀C0 C1 a1 n1 c1 sp n c,PassF v0 v1 C0 C1 a1 n1 c1 sp n c->∀z27 z29 z30 z31:Value,LW tnp Stop (G (b.at ⟨(v0::v1::u2::u3::u4::u5::u6::u7::u8::u9::u10::u11::u12::u13::u14::u15::u16::u17::u18::u19::u20::u21::u22::u23::u24::.slice (some a1) n1 c1::.slice sp n c::z27::goInt n::z29::z30::z31::u32::u33::u34::u35::u36::u37::u38::u39::R).toArray,[]⟩ [.code Twn.passMake,.code (.seq Twn.passDo .ret)]) cs) w0) :
  LW tnp Stop (G (b.at ⟨(v0::v1::u2::u3::u4::u5::u6::u7::u8::u9::u10::u11::u12::u13::u14::u15::u16::u17::u18::u19::u20::u21::u22::u23::u24::u25::u26::u27::u28::u29::u30::u31::u32::u33::u34::u35::u36::u37::u38::u39::R).toArray,[]⟩ [.code Twn.passBody]) cs) w0:=by
 unfold Twn.passBody;refine LW.go hcs ?_;rw[stepG_seq];simp only[goes_go];unfold Twn.passAsk;refine LW.go hcs ?_;rw[stepG_region];simp only[goes_go,List.size_toArray,List.length_cons,List.length_nil,Nat.reduceAdd,Nat.zero_add,List.range,List.range.loop];rcases Or.symm (jgu (P:=tnp) (k:=1) Twn.underlying60 rfl rfl Twn.isAgg58 v0)with⟨h,hd,hr⟩|⟨C0,s0,rfl,hs0,hr0⟩
 ·exact .stop (hbad _ _ (j54 (w':=w0) hcs rfl rfl (by simp[execOp,Act.eval,hr]) hd hro))
 refine LW.go hcs ?_;refine goes_oper_k rfl rfl hbk λK hK=>?_;simp[execOp,resolve,invoke,builtin,Act.eval,Result.andThen,hr0];refine hK _ _ ?_;clear hK K;try walk_nrm
 rcases Or.symm (jgu (P:=tnp) (k:=1) Twn.underlying60 rfl rfl Twn.isAgg58 v1)with⟨h,hd,hr⟩|⟨C1,s1,rfl,hs1,hr1⟩
 ·exact .stop (hbad _ _ (j54 (w':=w0) hcs rfl rfl (by simp[execOp,Act.eval,hr]) hd hro))
 refine LW.go hcs ?_;refine goes_oper_k rfl rfl hbk λK hK=>?_;simp[execOp,resolve,invoke,builtin,Act.eval,Result.andThen,hr1];refine hK _ _ ?_;clear hK K;try walk_nrm
 rcases Or.symm (jqb (P:=tnp) (ty:=3) Twn.underlying58 s0)with⟨h,hd,hr⟩|⟨a1,n1,c1,rfl,hl0⟩
 ·exact .stop (hbad _ _ (j54 (w':=w0) hcs rfl rfl (by simp[execOp,resolve,invoke,builtin,Act.eval,hr]) hd hro))
 refine LW.go hcs ?_;refine goes_oper_k rfl rfl hbk λK hK=>?_;simp[execOp,resolve,invoke,builtin,Act.eval,Result.andThen,hl0];refine hK _ _ ?_;clear hK K;try walk_nrm
 rcases Or.symm (jqb (P:=tnp) (ty:=3) Twn.underlying58 s1)with⟨h,hd,hr⟩|⟨sp,n,c,rfl,hl1⟩
 ·exact .stop (hbad _ _ (j54 (w':=w0) hcs rfl rfl (by simp[execOp,resolve,invoke,builtin,Act.eval,hr]) hd hro))
 refine LW.go hcs ?_;refine goes_oper_k rfl rfl hbk λK hK=>?_;simp[execOp,resolve,invoke,builtin,Act.eval,Result.andThen,hl1];refine hK _ _ ?_;clear hK K;try walk_nrm
 refine LW.go hcs ?_;refine goes_oper_k rfl rfl hbk λK hK=>?_;go_simp;refine hK _ _ ?_;clear hK K;try walk_nrm
 refine LW.go hcs ?_;refine goes_oper_k rfl rfl hbk λK hK=>?_;go_simp;refine hK _ _ ?_;clear hK K;try walk_nrm
 cases a1 with
 | none=>
  refine LW.go hcs ?_;refine goes_oper_k rfl rfl hbk λK hK=>?_;go_simp;refine hK _ _ ?_;clear hK K;try walk_nrm
  refine LW.go hcs ?_;rw[stepG_region_end];simp only[goes_go];refine LW.go hcs ?_;rw[stepG_seq];simp only[goes_go];refine LW.go hcs ?_;rw[stepG_cond (t:=decide (n<n1)) (by simp[Act.eval])];simp only[goes_go];by_cases h1:n<n1
  ·simp only[h1,decide_true,if_true];refine LW.go hcs ?_;rw[stepG_skip];simp only[goes_go];refine LW.go hcs ?_;rw[stepG_seq];simp only[goes_go];refine LW.go hcs ?_;rw[stepG_cond (t:=decide ((n:Int)<13)) (by simp[Act.eval])];simp only[goes_go];by_cases h2:(n:Int)<13
   ·simp only[h2,decide_true,if_true];refine LW.go hcs ?_;rw[stepG_skip];simp only[goes_go];refine LW.go hcs ?_;rw[stepG_seq];simp only[goes_go];refine LW.go hcs ?_;rw[stepG_cond (t:=true) (by simp[Act.eval])];simp only[goes_go,if_true];exact .stop (hbad _ _ (j4v hcs))
   ·simp only[h2,decide_false,Bool.false_eq_true,if_false];exact .stop (hbad _ _ (j4v hcs))
  ·simp only[h1,decide_false,Bool.false_eq_true,if_false];exact .stop (hbad _ _ (j4v hcs))
 | some a1=>
  refine LW.go hcs ?_;refine goes_oper_k rfl rfl hbk λK hK=>?_;go_simp;refine hK _ _ ?_;clear hK K;try walk_nrm
  refine LW.go hcs ?_;rw[stepG_region_end];simp only[goes_go];refine LW.go hcs ?_;rw[stepG_seq];simp only[goes_go];refine LW.go hcs ?_;rw[stepG_cond (t:=decide (n<n1)) (by simp[Act.eval])];simp only[goes_go];by_cases h1:n<n1
  ·simp only[h1,decide_true,if_true];refine LW.go hcs ?_;rw[stepG_skip];simp only[goes_go];refine LW.go hcs ?_;rw[stepG_seq];simp only[goes_go];refine LW.go hcs ?_;rw[stepG_cond (t:=decide ((n:Int)<13)) (by simp[Act.eval])];simp only[goes_go];by_cases h2:(n:Int)<13
   ·simp only[h2,decide_true,if_true];refine LW.go hcs ?_;rw[stepG_skip];simp only[goes_go];refine LW.go hcs ?_;rw[stepG_seq];simp only[goes_go];refine LW.go hcs ?_;rw[stepG_cond (t:=false) (by simp[Act.eval])];simp only[goes_go,Bool.false_eq_true,if_false];refine LW.go hcs ?_;rw[stepG_skip];simp only[goes_go];refine LW.go hcs ?_;rw[stepG_seq];simp only[goes_go];exact hgo C0 C1 a1 n1 c1 sp n c ⟨rfl,rfl,hs0,hs1,h1,by omega⟩ _ _ _ _
   ·simp only[h2,decide_false,Bool.false_eq_true,if_false];exact .stop (hbad _ _ (j4v hcs))
  ·simp only[h1,decide_false,Bool.false_eq_true,if_false];exact .stop (hbad _ _ (j4v hcs))
open Go Go.Conc Go.RowKit
noncomputable def zs (n:Nat):Array Value:=madeCells #[.int .i64 0,.int .i64 0] (n*2)
theorem jkm (n:Nat):(zs n).size=n*2:=by simp[zs,madeCells]
theorem jlw [Atom]{X:Nat->Prop}(n:Nat):∀v∈zs n,CV X v:=by
 intro v hv;simp only[zs,madeCells,Array.mem_map]at hv;obtain⟨i,_,rfl⟩:=hv;rw[getElem!_def];have:∀k,∀x,(#[Value.int .i64 0,.int .i64 0]:Array Value)[k]?=some x->CV X x:=λk x h=>by
  have:=Array.mem_of_getElem? h;simp at this;subst this;exact .int
 split
 ·rename_i x hx
  exact this _ _ hx
 ·exact .bool
theorem jun {P:Program}(hT:P.toTables=Tryz.prog.toTables)(w:World){n:Nat}(hn:n<13):(Instr.makeSlice 58 (.int .i64 n) (.int .i64 n)).run P w=.ok (.slice (some ⟨w.heap.size,0,none⟩) n n) (w.alloc (.cells (zs n) 76)):=by
 have:=run_makeSlice (P:=P) (w:=w) 58 76 Tryz.t76 (.agg #[.int .i64 0,.int .i64 0]) (by rw[j2o hT];exact Tryz.underlying58) (by rw[j7b hT];kernel_rfl) rfl .i64 .i64 n n (by omega) (by omega) (by show n*2<=_;omega) (by show(16:Int)*n<=_;omega) (by omega);simp only[Int.toNat_natCast]at this;exact this
theorem jq2 {P:Program}(hT:P.toTables=Tryz.prog.toTables)(w:World)(a1:Addr){n n1:Nat}(c1:Nat)(hn:n<n1):(Instr.indexAt 58 (.slice (some a1) n1 c1) (.int .i64 n)).run P w=.ok (.pointer (some (a1.add (n*2)))) w:=by
 have hu:P.underlying 58=some (.slice 76):=by rw[j2o hT];exact Tryz.underlying58
 have hs:∀w,(sizeOf 76).run P w=.ok 2 w:=λw=>by rw[j8q hT];exact Tryz.sizeOf76 w
 simp[Instr.indexAt,asIntOf,run_underlying hu,hs,hn]
structure MadeF [Atom](P:Program)(X:Nat->Prop)(w0:World)(C0 C1:Array Value)(a1:Addr)(sp:Option Addr)(n c:Nat)(q2 q3:Obj)(row:Array Value)(x y:Value):Prop where
 size:row.size=n*2
 ox:x.oneCell'=true
 oy:y.oneCell'=true
 cl:∀v∈row,CV X v
 cx:CV X x
 cy:CV X y
 copy:∃W csl,Hp w0 #[.cells C0 60,.cells C1 60,q2,q3,.cells (zs n) 76] W/\CW X W /\
  (∀τ d,(Builtin.copy_ #[58,58] 3 #[.slice (some ⟨w0.heap.size+4,0,none⟩) n n,.slice sp n c]).run P (W.on τ d)=.ok (goInt n) ((W.on τ d).setCells (w0.heap.size+4) 0 csl)) /\
  Hp w0 #[.cells C0 60,.cells C1 60,q2,q3,.cells row 76] (W.setCells (w0.heap.size+4) 0 csl)
 load:∃W,Hp w0 #[.cells C0 60,.cells C1 60,q2,q3,.cells row 76,.cells #[.slice (some ⟨w0.heap.size+4,0,none⟩) n n] 58] W/\CW X W /\
  ∀τ d,(loadVar 76 (a1.add (n*2))).run P (W.on τ d)=.ok (.agg #[x,y]) (W.on τ d)
def nul:Obj:=.cells #[] 145
def bs8 (N:Nat)(C0 C1:Array Value)(n:Nat)(q2 q3 q7:Obj)(row:Array Value)(x y:Value):Array Obj:=
 #[.cells C0 60,.cells C1 60,q2,q3,.cells row 76,.cells #[.slice (some ⟨N+4,0,none⟩) n n] 58,.cells #[x,y] 76,q7]
theorem jfs [Atom]{X:Nat->Prop}{Stop:Goroutine->World->Prop}(hbad:∀g w,Bad tnp g w->Stop g w){b:Frame}{cs:List Frame}(hcs:cs≠[])(hbk:b.kind≠.early)(hro:b.roundOf=none)(w0:World)(hC:CW X w0)(hfut:∀b,w0.heap.size<=b->X b)
  {C0 C1:Array Value}{a1:Addr}{n1 c1:Nat}{sp:Option Addr}{n c:Nat}(hv0:∀v∈C0,CV X v)(hv1:∀v∈C1,CV X v)(hF:PassF (.agg C0) (.agg C1) C0 C1 a1 n1 c1 sp n c)(u2 u3 u4 u5 u6 u7 u8 u9 u10 u11 u12 u13 u14 u15 u16 u17 u18 u19 u20 u21 u22 u23 u24 z27 z29 z30 z31 u32 u33 u34 u35 u36 u37 u38 u39:Value)(R:List Value)
  (hgo:∀row x y,MadeF tnp X w0 C0 C1 a1 sp n c nul nul row x y->∀w,Hp w0 (bs8 w0.heap.size C0 C1 n nul nul nul row x y) w->CW X w->∀z2 z3 z5 z7 z8 z9 z12 z18 z25 z26 z28 z33:Value,
   LW tnp Stop (G (b.at ⟨(.agg C0::.agg C1::z2::z3::u4::z5::.pointer (some ⟨w0.heap.size+5,0,none⟩)::z7::z8::z9::u10::u11::z12::u13::u14::u15::u16::u17::z18::.agg #[x,y]::u20::u21::u22::u23::u24::z25::z26::z27::z28::z29::z30::z31::u32::z33::u34::u35::u36::u37::u38::u39::R).toArray,[]⟩ [.code (.seq Twn.passDo .ret)]) cs) w) :
  LW tnp Stop (G (b.at ⟨(.agg C0::.agg C1::u2::u3::u4::u5::u6::u7::u8::u9::u10::u11::u12::u13::u14::u15::u16::u17::u18::u19::u20::u21::u22::u23::u24::.slice (some a1) n1 c1::.slice sp n c::z27::goInt n::z29::z30::z31::u32::u33::u34::u35::u36::u37::u38::u39::R).toArray,[]⟩ [.code Twn.passMake,.code (.seq Twn.passDo .ret)]) cs) w0:=by
 unfold Twn.passMake;refine LW.go hcs ?_;rw[stepG_region];simp only[goes_go,List.size_toArray,List.length_cons,List.length_nil,Nat.reduceAdd,Nat.zero_add,List.range,List.range.loop];refine LW.go hcs ?_;refine goes_oper_k rfl rfl hbk λK hK=>?_;go_simp;refine hK _ _ ?_;clear hK K;try walk_nrm
 obtain⟨w1,e1⟩:∃w1,w0.alloc (.cells C0 60)=w1:=⟨_,rfl⟩;have H1:Hp w0 #[.cells C0 60] w1:=e1▸(Hp.start w0).alloc _;have K1:CW X w1:=H1.cw hfut hC;rw[e1];clear e1;refine LW.go hcs ?_;refine goes_oper_k rfl rfl hbk λK hK=>?_;go_simp;refine hK _ _ ?_;clear hK K;try walk_nrm
 have s1:=H1.size;obtain⟨w2,e2⟩:∃w2,w1.alloc (.cells C1 60)=w2:=⟨_,rfl⟩;have H2:Hp w0 #[.cells C0 60,.cells C1 60] w2:=e2▸H1.alloc _;have K2:CW X w2:=H2.cw hfut hC;rw[e2];clear e2 H1 K1 s1;refine LW.go hcs ?_;refine goes_oper_k rfl rfl hbk λK hK=>?_;go_simp;refine hK _ _ ?_;clear hK K;try walk_nrm
 obtain⟨w3,e3⟩:∃w3,w2.alloc (.cells #[] 145)=w3:=⟨_,rfl⟩;have H3:Hp w0 #[.cells C0 60,.cells C1 60,nul] w3:=e3▸H2.alloc _;have K3:CW X w3:=H3.cw hfut hC;rw[e3];clear e3 H2 K2;refine LW.go hcs ?_;refine goes_oper_k rfl rfl hbk λK hK=>?_;go_simp;refine hK _ _ ?_;clear hK K;try walk_nrm
 obtain⟨w4,e4⟩:∃w4,w3.alloc (.cells #[] 145)=w4:=⟨_,rfl⟩;have H4:Hp w0 #[.cells C0 60,.cells C1 60,nul,nul] w4:=e4▸H3.alloc _;have K4:CW X w4:=H4.cw hfut hC;rw[e4];clear e4 H3 K3;have hmk:=jun (P:=tnp) Twn.tables w4 hF.le;refine LW.go hcs ?_;refine goes_oper_k rfl rfl hbk λK hK=>?_;simp[execOp,resolve,invoke,builtin,Act.eval,Result.andThen,hmk];refine hK _ _ ?_;clear hK K;try walk_nrm
 have s4:w4.heap.size=w0.heap.size+4:=H4.size;obtain⟨w5,e5⟩:∃w5,w4.alloc (.cells (zs n) 76)=w5:=⟨_,rfl⟩;have H5:Hp w0 #[.cells C0 60,.cells C1 60,nul,nul,.cells (zs n) 76] w5:=e5▸H4.alloc _;have K5:CW X w5:=H5.cw hfut hC;rw[e5,s4];clear e5 H4 K4 s4 hmk;have hspX:∀a,sp=some a->¬X a.block:=λa e=>j26 (e▸hv1 _ (Array.mem_of_getElem? hF.l1));rcases Or.symm (jkw (P:=tnp) (dT:=58) (sT:=58) (ty:=3) (g:=w0.heap.size+4) (n:=n) (dc:=n) (sc:=c) K5 Twn.underlying58 Twn.sizeOf76 (H5.get 4) (jkm n) hspX)with⟨h,w',hd,hr⟩|⟨csl,hcl,hcp⟩
 ·exact .stop (hbad _ _ (j54 (w':=w') hcs rfl rfl (by simp[execOp,resolve,invoke,builtin,Act.eval,hr,Result.andThen]) hd hro))
 have hc0:(Builtin.copy_ #[58,58] 3 #[.slice (some ⟨w0.heap.size+4,0,none⟩) n n,.slice sp n c]).run tnp w5=.ok (goInt n) (w5.setCells (w0.heap.size+4) 0 csl):=hcp w5.tape w5.drawn;obtain⟨row,hrow,hrm,H6'⟩:=Hp.setCells csl 0 H5 (k:=4) rfl;have hrc:∀v∈row,CV X v:=λv hv=>(hrm v hv).elim (hcl v) (jlw n v);have H6:Hp w0 #[.cells C0 60,.cells C1 60,nul,nul,.cells row 76] (w5.setCells (w0.heap.size+4) 0 csl):=H6';have K6:CW X (w5.setCells (w0.heap.size+4) 0 csl):=H6.cw hfut hC;refine LW.go hcs ?_;refine goes_oper_k rfl rfl hbk λK hK=>?_;simp[execOp,resolve,invoke,builtin,Act.eval,Result.andThen,hc0];refine hK _ _ ?_;clear hK K;try walk_nrm
 have MC:=(⟨w5,csl,H5,K5,hcp,H6⟩:∃W csl,Hp w0 #[.cells C0 60,.cells C1 60,nul,nul,.cells (zs n) 76] W/\CW X W /\
  (∀τ d,(Builtin.copy_ #[58,58] 3 #[.slice (some ⟨w0.heap.size+4,0,none⟩) n n,.slice sp n c]).run tnp (W.on τ d)=.ok (goInt n) ((W.on τ d).setCells (w0.heap.size+4) 0 csl)) /\
  Hp w0 #[.cells C0 60,.cells C1 60,nul,nul,.cells row 76] (W.setCells (w0.heap.size+4) 0 csl))
 obtain⟨w6,e6⟩:∃w6,w5.setCells (w0.heap.size+4) 0 csl=w6:=⟨_,rfl⟩;rw[e6]at H6 K6 ⊢;clear e6 hc0 hcp H6' H5 K5 hcl hspX;refine LW.go hcs ?_;refine goes_oper_k rfl rfl hbk λK hK=>?_;go_simp;refine hK _ _ ?_;clear hK K;try walk_nrm
 have s6:w6.heap.size=w0.heap.size+5:=H6.size;obtain⟨w7,e7⟩:∃w7,w6.alloc (.cells #[.slice none 0 0] 58)=w7:=⟨_,rfl⟩;have H7:Hp w0 #[.cells C0 60,.cells C1 60,nul,nul,.cells row 76,.cells #[.slice none 0 0] 58] w7:=e7▸H6.alloc _;have K7:CW X w7:=H7.cw hfut hC;rw[e7,s6];clear e7 H6 K6 s6;have hc7:w7.cell? ⟨w0.heap.size+5,0,none⟩=some (.slice none 0 0):=H7.cell (k:=5) rfl;have hf7:w7.frozen? ⟨w0.heap.size+5,0,none⟩=false:=H7.frozen (k:=5) rfl;refine LW.go hcs ?_;refine goes_oper_k rfl rfl hbk λK hK=>?_;go_simp;refine hK _ _ ?_;clear hK K;try walk_nrm
 obtain⟨w8,e8⟩:∃w8,w7.setCell ⟨w0.heap.size+5,0,none⟩ (.slice (some ⟨w0.heap.size+4,0,none⟩) n n)=w8:=⟨_,rfl⟩;have H8:Hp w0 #[.cells C0 60,.cells C1 60,nul,nul,.cells row 76,.cells #[.slice (some ⟨w0.heap.size+4,0,none⟩) n n] 58] w8:=e8▸H7.set (k:=5) (off:=0) rfl (.slice (some ⟨w0.heap.size+4,0,none⟩) n n);have K8:CW X w8:=H8.cw hfut hC;rw[e8];clear e8 H7 K7 hc7 hf7;have hix:=jq2 (P:=tnp) Twn.tables w8 a1 c1 hF.lt;refine LW.go hcs ?_;refine goes_oper_k rfl rfl hbk λK hK=>?_;simp[execOp,resolve,invoke,builtin,Act.eval,Result.andThen,hix];refine hK _ _ ?_;clear hK K;try walk_nrm
 have haX:¬X (a1.add (n*2)).block:=by
  rw[j2r];exact j26 (hv0 _ (Array.mem_of_getElem? hF.l0))
 rcases Or.symm (j9y (P:=tnp) K8 haX Twn.isAgg76 Twn.sizeOf76)with⟨h,w',hd,hr⟩|⟨x,y,hx,hy,hld⟩
 ·exact .stop (hbad _ _ (j54 (w':=w') hcs rfl rfl (by simp[execOp,Act.eval,Instr.loadAt,Instr.sureAddr,hr,Result.andThen]) hd hro))
 have hl0:(loadVar 76 (a1.add (n*2))).run tnp w8=.ok (.agg #[x,y]) w8:=hld w8.tape w8.drawn;have ML:=(⟨w8,H8,K8,hld⟩:∃W,Hp w0 #[.cells C0 60,.cells C1 60,nul,nul,.cells row 76,.cells #[.slice (some ⟨w0.heap.size+4,0,none⟩) n n] 58] W/\CW X W /\
  ∀τ d,(loadVar 76 (a1.add (n*2))).run tnp (W.on τ d)=.ok (.agg #[x,y]) (W.on τ d))
 refine LW.go hcs ?_;refine goes_oper_k rfl rfl hbk λK hK=>?_;simp[execOp,resolve,invoke,builtin,Act.eval,Result.andThen,Instr.loadAt,Instr.sureAddr,hl0];refine hK _ _ ?_;clear hK K;try walk_nrm
 clear hl0 hld hix;refine LW.go hcs ?_;refine goes_oper_k rfl rfl hbk λK hK=>?_;go_simp;refine hK _ _ ?_;clear hK K;try walk_nrm
 have s8:w8.heap.size=w0.heap.size+6:=H8.size;obtain⟨w9,e9⟩:∃w9,w8.alloc (.cells #[.int .i64 0,.int .i64 0] 76)=w9:=⟨_,rfl⟩;have H9:Hp w0 #[.cells C0 60,.cells C1 60,nul,nul,.cells row 76,.cells #[.slice (some ⟨w0.heap.size+4,0,none⟩) n n] 58,.cells #[.int .i64 0,.int .i64 0] 76] w9:=e9▸H8.alloc _;have K9:CW X w9:=H9.cw hfut hC;rw[e9,s8];clear e9 H8 K8 s8;rcases Or.symm (j9o (P:=tnp) [x,y] 0 _ w9 (H9.get 6) (by simp))with⟨h,w',hd,hr⟩|⟨hst,hone⟩
 ·exact .stop (hbad _ _ (j54 (w':=w') hcs rfl rfl (by simp[execOp,Act.eval,Instr.storeAt,Instr.sureAddr,storeVar,Value.cells,hr,Result.andThen]) hd hro))
 have ox:x.oneCell'=true:=hone x (by simp);have oy:y.oneCell'=true:=hone y (by simp);refine LW.go hcs ?_;refine goes_oper_k rfl rfl hbk λK hK=>?_;simp[execOp,resolve,invoke,builtin,Act.eval,Result.andThen,Instr.storeAt,Instr.sureAddr,storeVar,Value.cells,hst];refine hK _ _ ?_;clear hK K;try walk_nrm
 have eS:w9.setCells (w0.heap.size+6) 0 [x,y]=(w9.setCell ⟨w0.heap.size+6,0,none⟩ x).setCell ⟨w0.heap.size+6,1,none⟩ y:=rfl;obtain⟨w10,e10⟩:∃w10,w9.setCells (w0.heap.size+6) 0 [x,y]=w10:=⟨_,rfl⟩;have H10:Hp w0 #[.cells C0 60,.cells C1 60,nul,nul,.cells row 76,.cells #[.slice (some ⟨w0.heap.size+4,0,none⟩) n n] 58,.cells #[x,y] 76] w10:=by
  rw[<- e10,eS];exact(H9.set (k:=6) (off:=0) rfl x).set (k:=6) (off:=1) rfl y
 have K10:CW X w10:=H10.cw hfut hC;rw[e10];clear e10 H9 K9 eS hst;refine LW.go hcs ?_;refine goes_oper_k rfl rfl hbk λK hK=>?_;go_simp;refine hK _ _ ?_;clear hK K;try walk_nrm
 obtain⟨w11,e11⟩:∃w11,w10.alloc (.cells #[] 145)=w11:=⟨_,rfl⟩;have H11:Hp w0 (bs8 w0.heap.size C0 C1 n nul nul nul row x y) w11:=e11▸H10.alloc _;have K11:CW X w11:=H11.cw hfut hC;rw[e11];clear e11 H10 K10;refine LW.go hcs ?_;rw[stepG_region_end];simp only[goes_go];exact hgo row x y ⟨by rw[hrow];exact jkm n,ox,oy,hrc,hx,hy,MC,ML⟩ w11 H11 K11 _ _ _ _ _ _ _ _ _ _ _ _
open Go Go.Conc Go.ConcN
structure Lie (Shun Sh:Loc->Prop)(Own Rd:Nat->Loc->Prop):Prop where
 own:∀k k' l,Own k l->Own k' l->k=k'
 ownRd:∀k k' l,Own k l->¬Rd k' l
 ownSh:∀k l,Own k l->¬Sh l
 rdSh:∀k l,Rd k l->¬Sh l
 ownShun:∀k l,Own k l->¬Shun l
 rdShun:∀k l,Rd k l->¬Shun l
 ownM:∀k l,Own k l->l.isMemory=true
 rdM:∀k l,Rd k l->l.isMemory=true
structure PT (ra:Addr)(Shun Sh:Loc->Prop)(Own Rd:Nat->Loc->Prop)(B T0:Nat)(St:Nat->Prop)(t:Trace):Prop where
 quiet:Quiet Sh t
 own:∀k,St k->∀l,Own k l->Perm t k l
 rd:∀k,St k->∀l,Rd k l->PermW t k l
 nr:∀said,¬Race said t
 low:∀op∈t,op.act.low B
 pos:∀k,St k->k≠0
 at0:T0<=t.size
 known:∀i a,touchAt t i=some a->a.loc.isMemory=true->Knows t 0 i\/((Shun a.loc\/Sh a.loc)/\a.kind=.atomic)\/(T0<=i/\∃k,St k/\t.g? i=some k/\t.counts i)
 mine:∀i a k,T0<=i->t.g? i=some k->St k->touchAt t i=some a->(Sh a.loc/\a.kind=.atomic)\/Own k a.loc\/(Rd k a.loc/\a.write=false)
 over:∀i g,t.g? i=some g->g≠0->t.counts i->(∃j,t.g? j=some 0/\HappensBefore t i j)\/(T0<=i/\St g)
 norel:∀i,T0<=i->t.act? i≠some (.mark (.release ra))
 others:∀i g,T0<=i->t.g? i=some g->g≠0->¬St g->touchAt t i=none
def OkP0 (ra:Addr)(Sh:Loc->Prop)(B:Nat)(op:MemOp):Prop:=
 op.g=0/\(∀x,op.act.touch?=some x->Sh x.loc/\x.kind≠.plain)/\op.act.low B/\op.act≠.mark (.release ra)
def OkPk (ra:Addr)(Sh:Loc->Prop)(Own Rd:Nat->Loc->Prop)(B k:Nat)(op:MemOp):Prop:=
 op.g=k/\(∀x,op.act.touch?=some x->(Sh x.loc/\x.kind=.atomic)\/Own k x.loc\/(Rd k x.loc/\x.write=false))/\op.act.low B/\op.act≠.mark (.release ra)
section
variable {ra:Addr}{Shun Sh:Loc->Prop}{Own Rd:Nat->Loc->Prop}{B T0:Nat}{St:Nat->Prop}{t u:Trace}
theorem g?_of {i:Nat}{op:MemOp}(h:t[i]?=some op):t.g? i=some op.g:=by simp[Trace.g?,h]
theorem j87 (h:∀i,T0<=i->t.act? i≠some (.mark (.release ra)))(hu:∀op∈u,op.act≠.mark (.release ra)) :
  ∀i,T0<=i->(t++u).act? i≠some (.mark (.release ra)):=by
 intro i hi e;obtain⟨op,ho,hoe⟩:=Option.map_eq_some_iff.1 e;rcases getElem?_append_cases ho with⟨hlt,ho'⟩|⟨_,hou⟩
 ·exact h i hi (by rw[<- act?_old (u:=u) hlt];exact e)
 ·exact hu op hou hoe
theorem PT.start (h:Past Shun B t)(hq:Quiet Sh t):PT ra Shun Sh Own Rd B t.size (λ_=>False) t:=by
 refine⟨hq,λ_ x=>x.elim,λ_ x=>x.elim,h.clean,h.seen,λ_ x=>x.elim,Nat.le_refl _,λi a ha hm=>?_,λ_ _ _ _ _ x=>x.elim,λi g hg hne hc=>.inl (h.over i g hg hne hc),λi hi e=>?_,λi g hi hg _ _=>?_⟩
 ·rcases h.known i a ha hm with x|⟨x,y⟩
  ·exact .inl x
  ·exact .inr (.inl ⟨.inl x,y⟩)
 ·obtain⟨op,ho,_⟩:=Option.map_eq_some_iff.1 e;have:=lt_size_of_getElem? ho;omega
 ·obtain⟨op,ho,_⟩:=Option.map_eq_some_iff.1 hg;have:=lt_size_of_getElem? ho;omega
theorem PT.app0 (L:Lie Shun Sh Own Rd)(h:PT ra Shun Sh Own Rd B T0 St t)(hu:∀op∈u,OkP0 ra Sh B op):PT ra Shun Sh Own Rd B T0 St (t++u):=by
 have sep:∀op∈u,∀b,op.act.touch?=some b->Sh b.loc:=λop hop b hb=>((hu op hop).2.1 b hb).1;refine⟨h.quiet.app λop hop x hx hs=>⟨((hu op hop).2.1 x hx).2,λ_=>(hu op hop).1⟩,
  λk hk l hl=>(h.own k hk l hl).app λop hop b hb e=>absurd (e▸sep op hop b hb) (L.ownSh k l hl),
  λk hk l hl=>(h.rd k hk l hl).app λop hop b hb e _=>absurd (e▸sep op hop b hb) (L.rdSh k l hl),
  λsaid=>noRace_append (h.nr said) (λop hop=>(hu op hop).1) (λi a ha op hop b hb hc=>h.quiet.known (sep op hop b hb) ((hu op hop).2.1 b hb).2 (λ_=>rfl) i a ha hc),
  seen_app h.low λop hop=>(hu op hop).2.2.1,h.pos,by have:=h.at0;simp;omega,λi a ha hm=>?_,λi a k hi hg hk ha=>?_,λi g hg hne hc=>?_,j87 h.norel λop hop=>(hu op hop).2.2.2,λi g hi hg hne hn=>?_⟩
 ·obtain⟨x,hx,hxa⟩:=touch_of ha;rcases getElem?_append_cases hx with⟨hi,hx'⟩|⟨_,hxu⟩
  ·rcases h.known i a (by rw[touchAt_of hx'];exact hxa) hm with y|y|⟨y0,k,y1,y2,y3⟩
   ·exact .inl (y.app u)
   ·exact .inr (.inl y)
   ·exact .inr (.inr ⟨y0,k,y1,by rw[g?_old hi];exact y2,(counts_old hi).2 y3⟩)
  ·have:=knows_own hx;rw[(hu x hxu).1]at this;exact .inl this
 ·obtain⟨x,hx,hxa⟩:=touch_of ha;rcases getElem?_append_cases hx with⟨hlt,hx'⟩|⟨_,hxu⟩
  ·exact h.mine i a k hi (by rw[<- g?_old (u:=u) hlt];exact hg) hk (by rw[touchAt_of hx'];exact hxa)
  ·rw[g?_of hx,Option.some.injEq,(hu x hxu).1]at hg;exact absurd hg.symm (h.pos k hk)
 ·obtain⟨x,hx⟩:∃x,(t++u)[i]?=some x:=by
   obtain⟨x,hx,_⟩:=Option.map_eq_some_iff.1 hg;exact⟨x,hx⟩
  rcases getElem?_append_cases hx with⟨hlt,_⟩|⟨_,hxu⟩
  ·rcases h.over i g (by rw[<- g?_old (u:=u) hlt];exact hg) hne ((counts_old hlt).1 hc)with⟨j,hj,hb⟩|y
   ·refine .inl ⟨j,?_,hb_app u hb⟩;obtain⟨z,hz,_⟩:=Option.map_eq_some_iff.1 hj;rw[g?_old (lt_size_of_getElem? hz)];exact hj
   ·exact .inr y
  ·rw[g?_of hx,Option.some.injEq,(hu x hxu).1]at hg;exact absurd hg.symm hne
 ·obtain⟨x,hx,_⟩:=Option.map_eq_some_iff.1 hg;rcases getElem?_append_cases hx with⟨hlt,_⟩|⟨_,hxu⟩
  ·rw[touchAt_old hlt];exact h.others i g hi (by rw[<- g?_old (u:=u) hlt];exact hg) hne hn
  ·rw[g?_of hx,Option.some.injEq,(hu x hxu).1]at hg;exact absurd hg.symm hne
theorem PT.appk (L:Lie Shun Sh Own Rd)(h:PT ra Shun Sh Own Rd B T0 St t){k:Nat}(hk:St k)(hu:∀op∈u,OkPk ra Sh Own Rd B k op)
  (hd:∀i op,(t++u)[i]?=some op->t.size<=i->∀x,op.act.touch?=some x->(Sh x.loc/\x.kind=.atomic)\/x.kind≠.atomic\/(t++u).heard i):PT ra Shun Sh Own Rd B T0 St (t++u):=by
 have hk0:=h.pos k hk;refine⟨h.quiet.app λop hop x hx hs=>?_,
  λk' hk' l hl=>(h.own k' hk' l hl).app λop hop b hb e=>?_,
  λk' hk' l hl=>(h.rd k' hk' l hl).app λop hop b hb e hw=>?_,
  λsaid=>noRace_append (h.nr said) (λop hop=>(hu op hop).1) (λi a ha op hop b hb hc=>?_),
  seen_app h.low λop hop=>(hu op hop).2.2.1,h.pos,by have:=h.at0;simp;omega,λi a ha hm=>?_,λi a k' hi hg hk' ha=>?_,λi g hg hne hc=>?_,j87 h.norel λop hop=>(hu op hop).2.2.2,λi g hi hg hne hn=>?_⟩
 ·rcases(hu op hop).2.1 x hx with⟨_,e⟩|e|⟨e,_⟩
  ·exact⟨by rw[e];decide,λe'=>by rw[e]at e';cases e'⟩
  ·exact absurd hs (L.ownSh k _ e)
  ·exact absurd hs (L.rdSh k _ e)
 ·rcases(hu op hop).2.1 b hb with⟨hs,_⟩|ho|⟨hr,_⟩
  ·exact absurd (e▸hs) (L.ownSh k' l hl)
  ·rw[(hu op hop).1];exact L.own k k' l (e▸ho) hl
  ·exact absurd (e▸hr) (L.ownRd k' k l hl)
 ·rcases(hu op hop).2.1 b hb with⟨hs,_⟩|ho|⟨_,hr⟩
  ·exact absurd (e▸hs) (L.rdSh k' l hl)
  ·exact absurd hl (L.ownRd k k' l (e▸ho))
  ·rw[hr]at hw;cases hw
 ·rcases(hu op hop).2.1 b hb with⟨hs,e⟩|ho|⟨hr,hbw⟩
  ·exact h.quiet.known hs (by rw[e];decide) (λe'=>by rw[e]at e';cases e') i a ha hc
  ·exact h.own k hk b.loc ho i a ha hc.1
  ·exact h.rd k hk b.loc hr i a ha hc.1 (hc.2.2.1.resolve_right (by simp[hbw]))
 ·obtain⟨x,hx,hxa⟩:=touch_of ha;rcases getElem?_append_cases hx with⟨hi,hx'⟩|⟨hi,hxu⟩
  ·rcases h.known i a (by rw[touchAt_of hx'];exact hxa) hm with y|y|⟨y0,k,y1,y2,y3⟩
   ·exact .inl (y.app u)
   ·exact .inr (.inl y)
   ·exact .inr (.inr ⟨y0,k,y1,by rw[g?_old hi];exact y2,(counts_old hi).2 y3⟩)
  ·rcases hd i x hx hi a hxa with⟨y,z⟩|y
   ·exact .inr (.inl ⟨.inr y,z⟩)
   ·exact .inr (.inr ⟨Nat.le_trans h.at0 hi,k,hk,by rw[g?_of hx,(hu x hxu).1],⟨a,ha,hm,y⟩⟩)
 ·obtain⟨x,hx,hxa⟩:=touch_of ha;rcases getElem?_append_cases hx with⟨hlt,hx'⟩|⟨_,hxu⟩
  ·exact h.mine i a k' hi (by rw[<- g?_old (u:=u) hlt];exact hg) hk' (by rw[touchAt_of hx'];exact hxa)
  ·rw[g?_of hx,Option.some.injEq,(hu x hxu).1]at hg;subst hg;exact(hu x hxu).2.1 a hxa
 ·obtain⟨x,hx⟩:∃x,(t++u)[i]?=some x:=by
   obtain⟨x,hx,_⟩:=Option.map_eq_some_iff.1 hg;exact⟨x,hx⟩
  rcases getElem?_append_cases hx with⟨hlt,_⟩|⟨hge,hxu⟩
  ·rcases h.over i g (by rw[<- g?_old (u:=u) hlt];exact hg) hne ((counts_old hlt).1 hc)with⟨j,hj,hb⟩|y
   ·refine .inl ⟨j,?_,hb_app u hb⟩;obtain⟨z,hz,_⟩:=Option.map_eq_some_iff.1 hj;rw[g?_old (lt_size_of_getElem? hz)];exact hj
   ·exact .inr y
  ·rw[g?_of hx,Option.some.injEq,(hu x hxu).1]at hg;subst hg;exact .inr ⟨Nat.le_trans h.at0 hge,hk⟩
 ·obtain⟨x,hx,_⟩:=Option.map_eq_some_iff.1 hg;rcases getElem?_append_cases hx with⟨hlt,_⟩|⟨_,hxu⟩
  ·rw[touchAt_old hlt];exact h.others i g hi (by rw[<- g?_old (u:=u) hlt];exact hg) hne hn
  ·rw[g?_of hx,Option.some.injEq,(hu x hxu).1]at hg;exact absurd (hg▸hk) hn
theorem PT.appMute (h:PT ra Shun Sh Own Rd B T0 St t){g:Nat}(hg:¬St g)(hu:∀op∈u,op.g=g)(hn:∀op∈u,op.act.touch?=none)(hl:∀op∈u,op.act.low B)(hr:∀op∈u,op.act≠.mark (.release ra)) :
  PT ra Shun Sh Own Rd B T0 St (t++u):=by
 have no:∀{op:MemOp},op∈u->∀b,op.act.touch?=some b->False:=λhop b hb=>by rw[hn _ hop]at hb;cases hb
 refine⟨h.quiet.app λop hop x hx _=>(no hop x hx).elim,λk hk l hl=>(h.own k hk l hl).app λop hop b hb _=>(no hop b hb).elim,
  λk hk l hl=>(h.rd k hk l hl).app λop hop b hb _ _=>(no hop b hb).elim,
  λsaid=>noRace_append (h.nr said) hu (λi a _ op hop b hb _=>(no hop b hb).elim),
  seen_app h.low hl,h.pos,by have:=h.at0;simp;omega,λi a ha hm=>?_,λi a k hi hg' hk ha=>?_,λi g' hg' hne hc=>?_,j87 h.norel hr,λi g' hi hg' hne hn'=>?_⟩
 ·obtain⟨x,hx,hxa⟩:=touch_of ha;rcases getElem?_append_cases hx with⟨hi,hx'⟩|⟨_,hxu⟩
  ·rcases h.known i a (by rw[touchAt_of hx'];exact hxa) hm with y|y|⟨y0,k,y1,y2,y3⟩
   ·exact .inl (y.app u)
   ·exact .inr (.inl y)
   ·exact .inr (.inr ⟨y0,k,y1,by rw[g?_old hi];exact y2,(counts_old hi).2 y3⟩)
  ·exact(no hxu a hxa).elim
 ·obtain⟨x,hx,hxa⟩:=touch_of ha;rcases getElem?_append_cases hx with⟨hlt,hx'⟩|⟨_,hxu⟩
  ·exact h.mine i a k hi (by rw[<- g?_old (u:=u) hlt];exact hg') hk (by rw[touchAt_of hx'];exact hxa)
  ·exact(no hxu a hxa).elim
 ·obtain⟨x,hx,hxa⟩:=touch_of hc.choose_spec.1;rcases getElem?_append_cases hx with⟨hlt,_⟩|⟨_,hxu⟩
  ·rcases h.over i g' (by rw[<- g?_old (u:=u) hlt];exact hg') hne ((counts_old hlt).1 hc)with⟨j,hj,hb⟩|y
   ·refine .inl ⟨j,?_,hb_app u hb⟩;obtain⟨z,hz,_⟩:=Option.map_eq_some_iff.1 hj;rw[g?_old (lt_size_of_getElem? hz)];exact hj
   ·exact .inr y
  ·exact(no hxu _ hxa).elim
 ·obtain⟨x,hx,_⟩:=Option.map_eq_some_iff.1 hg';rcases getElem?_append_cases hx with⟨hlt,_⟩|⟨_,hxu⟩
  ·rw[touchAt_old hlt];exact h.others i g' hi (by rw[<- g?_old (u:=u) hlt];exact hg') hne hn'
  ·rw[touchAt_of hx];exact hn x hxu
theorem PT.fork (L:Lie Shun Sh Own Rd)(h:PT ra Shun Sh Own Rd B T0 St t){k:Nat}(hk:¬St k)(hk0:k≠0){x y:MemOp}(hx:x.g=0/\x.act=.go k)(hy:y.g=k/\y.act=.start)(h0:Deaf t 0=0)(hdk:Deaf t k=0) :
  PT ra Shun Sh Own Rd B T0 (λj=>St j\/j=k) (t++#[x,y]):=by
 have hnt:∀op∈#[x,y],∀b,op.act.touch?=some b->False:=by
  intro op hop b hb;simp only[List.mem_toArray,List.mem_cons,List.not_mem_nil,or_false]at hop;rcases hop with rfl|rfl
  ·rw[hx.2]at hb;cases hb
  ·rw[hy.2]at hb;cases hb
 have old:∀{i:Nat} {a:Touch},touchAt (t++#[x,y]) i=some a->i<t.size/\touchAt t i=some a:=by
  intro i a ha;obtain⟨z,hz,hza⟩:=touch_of ha;rcases getElem?_append_cases hz with⟨hlt,hz'⟩|⟨_,hzu⟩
  ·exact⟨hlt,by rw[touchAt_of hz'];exact hza⟩
  ·exact(hnt z hzu a hza).elim
 have kn0:∀{i:Nat} {a:Touch} {l:Loc},touchAt t i=some a->a.loc=l->a.loc.isMemory=true->¬Shun l->¬Sh l->(∀k',St k'->T0<=i->t.g? i=some k'->False)->Knows t 0 i:=by
  intro i a l ha e hm h1 h2 h3;rcases h.known i a ha hm with y|⟨y|y,_⟩|⟨y0,k',y1,y2,_⟩
  ·exact y
  ·exact absurd (e▸y) h1
  ·exact absurd (e▸y) h2
  ·exact(h3 k' y1 y0 y2).elim
 refine⟨h.quiet.app λop hop b hb _=>(hnt op hop b hb).elim,λk' hk' l hl=>?_,λk' hk' l hl=>?_,λsaid=>?_,?_,?_,by have:=h.at0;simp;omega,λi a ha hm=>?_,λi a k' hi hg hk' ha=>?_,λi g hg hne hc=>?_,j87 h.norel λop hop e=>?_,λi g hi hg hne hn=>?_⟩
 ·rcases hk' with hk'|rfl
  ·exact(h.own k' hk' l hl).app λop hop b hb _=>(hnt op hop b hb).elim
  ·intro i a ha e;obtain⟨_,ha'⟩:=old ha;refine fork_knows hx hy h0 hdk (kn0 ha' e (e▸L.ownM _ l hl) (L.ownShun _ l hl) (L.ownSh _ l hl) λkq h2 hi hg=>?_);rcases h.mine i a kq hi hg h2 ha' with⟨hs,_⟩|ho|⟨hr,_⟩
   ·exact L.ownSh _ l hl (e▸hs)
   ·exact hk (L.own kq _ l (e▸ho) hl▸h2)
   ·exact L.ownRd _ kq l hl (e▸hr)
 ·rcases hk' with hk'|rfl
  ·exact(h.rd k' hk' l hl).app λop hop b hb _ _=>(hnt op hop b hb).elim
  ·intro i a ha e hw;obtain⟨_,ha'⟩:=old ha;refine fork_knows hx hy h0 hdk (kn0 ha' e (e▸L.rdM _ l hl) (L.rdShun _ l hl) (L.rdSh _ l hl) λkq h2 hi hg=>?_);rcases h.mine i a kq hi hg h2 ha' with⟨hs,_⟩|ho|⟨_,hr⟩
   ·exact L.rdSh _ l hl (e▸hs)
   ·exact L.ownRd kq _ l (e▸ho) hl
   ·rw[hr]at hw;cases hw
 ·have e:t++#[x,y]=(t++#[x])++#[y]:=by apply Array.ext';simp
  rw[e];refine noRace_append (g:=k) (noRace_append (g:=0) (h.nr said) (λop hop=>by simp at hop;rw[hop];exact hx.1) (λi a _ op hop b hb _=>(hnt op (by simp at hop ⊢;exact .inl hop) b hb).elim))
   (λop hop=>by simp at hop;rw[hop];exact hy.1) (λi a _ op hop b hb _=>(hnt op (by simp at hop ⊢;exact .inr hop) b hb).elim)
 ·refine seen_app h.low λop hop=>?_;simp only[List.mem_toArray,List.mem_cons,List.not_mem_nil,or_false]at hop;rcases hop with rfl|rfl
  ·rw[hx.2];trivial
  ·rw[hy.2];trivial
 ·rintro j (hj|rfl)
  ·exact h.pos j hj
  ·exact hk0
 ·obtain⟨hlt,ha'⟩:=old ha;rcases h.known i a ha' hm with y|y|⟨y0,k,y1,y2,y3⟩
  ·exact .inl (y.app _)
  ·exact .inr (.inl y)
  ·exact .inr (.inr ⟨y0,k,.inl y1,by rw[g?_old hlt];exact y2,(counts_old hlt).2 y3⟩)
 ·obtain⟨hlt,ha'⟩:=old ha;rw[g?_old hlt]at hg;rcases hk' with hk'|rfl
  ·exact h.mine i a k' hi hg hk' ha'
  ·rw[h.others i k' hi hg hk0 hk]at ha';cases ha'
 ·obtain⟨hlt,_⟩:=old hc.choose_spec.1;rcases h.over i g (by rw[<- g?_old hlt];exact hg) hne ((counts_old hlt).1 hc)with⟨j,hj,hb⟩|⟨y,z⟩
  ·refine .inl ⟨j,?_,hb_app _ hb⟩;obtain⟨z,hz,_⟩:=Option.map_eq_some_iff.1 hj;rw[g?_old (lt_size_of_getElem? hz)];exact hj
  ·exact .inr ⟨y,.inl z⟩
 ·simp only[List.mem_toArray,List.mem_cons,List.not_mem_nil,or_false]at hop;rcases hop with rfl|rfl
  ·rw[hx.2]at e;cases e
  ·rw[hy.2]at e;cases e
 ·cases ha:touchAt (t++#[x,y]) i with
  | none=>rfl
  | some a=>
   obtain⟨hlt,ha'⟩:=old ha;rw[h.others i g hi (by rw[<- g?_old (u:=#[x,y]) hlt];exact hg) hne (λe=>hn (.inl e))]at ha';cases ha'
theorem PT.done {q:Nat}(h:PT ra Shun Sh Own Rd B T0 St t)(hears:Deaf t 0=0)(all:∀k,St k->∃r,RelBy ra t k r/\T0<=r/\r<q)
  (hq:t.act? q=some (.mark (.acquire ra)))(hg:t.g? q=some 0)(hh:t.heard q):Past (λl=>Shun l\/Sh l) B t:=by
 have key:∀i k,St k->t.g? i=some k->t.counts i->HappensBefore t i q:=by
  intro i k hk hgi hc;obtain⟨r,hr,h0r,hrq⟩:=all k hk;have edge:HappensBefore t r q:=.single (.inr ⟨.marked hrq (.inr hr.act) hq (λj hj _=>h.norel j (by omega)),hr.heard,hh⟩);have hle:i<=r:=Nat.le_of_not_lt λhlt=>hr.after i hlt hgi hc;rcases Nat.lt_or_ge i r with hlt|hge
  ·exact .trans (.single (.inl ⟨hlt,k,hgi,hr.g⟩)) edge
  ·obtain rfl:i=r:=by omega
   exact edge
 obtain⟨z,hz,hz0⟩:=Option.map_eq_some_iff.1 hg;refine⟨h.nr,λi x hx hm=>?_,λi g hgi hne hc=>?_,hears,h.low⟩
 ·rcases h.known i x hx hm with y|y|⟨_,k,y1,y2,y3⟩
  ·exact .inl y
  ·exact .inr y
  ·exact .inl ⟨q,z,hz,hz0,.inr (key i k y1 y2 y3)⟩
 ·rcases h.over i g hgi hne hc with y|⟨_,y⟩
  ·exact y
  ·exact⟨q,hg,key i g y hgi hc⟩
end
end Go.Proofs.Mn
