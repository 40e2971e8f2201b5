/-
  A part of the proof.
-/
import Derived.Test.YtbcegllhelfijaaGreatDoorY02
set_option linter.all false
set_option maxRecDepth 100000
set_option maxHeartbeats 8000000
namespace Go.Proofs.Mn
open Go Go.Conc
variable [Atom]
section
variable {P' P:Program}{X:Nat->Prop}{pass:FuncId}{base:List Frame}{fr:Frame}{cs:List Frame}{w w' w1:World}{es:Array Event}{g1:Goroutine}
theorem j2e {fn:FuncId}{es:Array Event}{w1:World}(h:∀e∈es,EvC X w1 e):∀e∈seen P fn es++#[],EvC X w1 e:=λe he=>h e (mem_seen (by simpa using he))
theorem j6f [Stays]{g:Goroutine}(hA:Agree X w w')(hC:CW X w)(hf:CF P' P X g.frame)(hc:∀c∈g.callers,CF P' P X c)(hs:g.status=.running)(hd:g.dying=none)(ho:g.offers=none):Goes1 P' P X pass base w.heap.size g w (.go (g.over base) w'):=
 ⟨w',#[],hA,hC,Nat.le_refl _,by simp,.inl ⟨rfl,hf,hc,hs,hd,ho⟩⟩
def RunK (P':Program)(s:Sem Next)(w:World):Prop:=
 (∃x w2 es,s.runT P' w #[]=(.ok x w2,es)/\match x with|.value _|.skip|.recover|.enter _ _|.defer _=>True|_=>False) \/
 (∃v w2 es,s.runT P' w #[]=(.halt (.panic v) w2,es))\/∃h w2 es,Dead h/\s.runT P' w #[]=(.halt h w2,es)
theorem jr8 [Stays]{Y:Nat->Prop}(hT:P'.toTables=P.toTables){s s':Sem Next}(hs:Cl P' P Y (CN P' P Y pass) s s')(hA:Agree Y w w')(hC:CWd Y w):RunK P' s w:=by
 have hr:=j3q hT hs w w' #[] hA hC.toCW;unfold RunK;generalize s.runT P' w #[]=r at hr;generalize s'.runT P w' #[]=r' at hr;obtain⟨r,es1⟩:=r;have hp:∀(n:Nat) b,w.heap.size<=b->b<n->¬Y b:=λn b h1 _ hx=>by have:=hC.dom b hx;omega
 cases r with
 | ok x w2=>
  obtain⟨_,_,_,_,hq,_⟩:=hr (hp _);refine .inl ⟨x,w2,es1,rfl,?_⟩;cases x<;>first|trivial|exact hq.elim
 | halt hh w2=>
  rcases hr with hd|hr
  ·exact .inr (.inr ⟨hh,w2,es1,hd,rfl⟩)
  ·obtain⟨_,_,_,_,hch,_⟩:=hr (hp _);cases hh with
   | panic v=>exact .inr (.inl ⟨v,w2,es1,rfl⟩)
   | _=>exact hch.elim
theorem jio {s:Sem Next}(hk:RunK P' s w)(h:stepG.apply P' true fr cs none s w=.go g1 w1 es):resW (s.runT P' w #[]).1=w1:=by
 unfold stepG.apply at h;simp only[if_true]at h;rcases hk with⟨x,w2,es1,e,hx⟩|⟨v,w2,es1,e⟩|⟨hh,w2,es1,hd,e⟩
 ·rw[e]at h ⊢;cases x with
  | recover=>
   dsimp only at h
   repeat' split at h
   all_goals
    simp only[GStep.after]at h;cases h;rfl
  | value|skip|enter|defer=>simp only[GStep.after]at h;cases h;rfl
  | _=>exact hx.elim
 ·rw[e]at h ⊢;simp only[GStep.after]at h;cases h;rfl
 ·rw[e]at h ⊢;rcases hd with⟨u,rfl,hu⟩|⟨s,rfl⟩
  ·cases u with
   | initOrder g=>exact absurd rfl (hu g)
   | _=>simp only[GStep.after]at h;cases h
  ·simp only[GStep.after]at h;cases h
theorem jd8 {d:Deferred}(hk:RunK P' (invoke d.target d.args) w)(h:callDeferred P' fr cs none d w=.go g1 w1 es):resW ((invoke d.target d.args).runT P' w #[]).1=w1:=by
 obtain⟨tg,dargs⟩:=d;simp only at hk ⊢;unfold callDeferred at h;cases tg<;>cases hm:fr.mode
 case nil.panicking=>rw[if_pos (by simp[hm])]at h;cases h
 all_goals
  rw[if_neg (by simp[hm])]at h;revert h hk;unfold RunK;generalize Sem.runT P' (invoke _ dargs) w #[]=r;intro hk h;rcases hk with⟨x,w2,es1,rfl,hx⟩|⟨v,w2,es1,rfl⟩|⟨hh,w2,es1,hd,rfl⟩
  ·cases x with
   | recover=>
    simp only[hm]at h
    repeat' split at h
    all_goals
     simp only[GStep.after]at h;cases h;rfl
   | value|skip|enter|defer=>simp only[GStep.after]at h;cases h;rfl
   | _=>exact hx.elim
  ·simp only[GStep.after]at h;cases h;rfl
  ·rcases hd with⟨u,rfl,hu⟩|⟨s,rfl⟩
   ·cases u with
    | initOrder g=>exact absurd rfl (hu g)
    | _=>simp only[GStep.after]at h;cases h
   ·simp only[GStep.after]at h;cases h
theorem jil [Stays](hbase:BaseOk base)(T:Twin P' P X pass)(hf:CF P' P X fr)(hcs:∀c∈cs,CF P' P X c){s s':Sem Next}(hs:Cl P' P X (CN P' P X pass) s s')(hA:Agree X w w')(hC:CW X w)(hK:RunK P' s w)(hp:∀b,w.heap.size<=b->b<w1.heap.size->¬X b)
  (h:stepG.apply P' true fr cs none s w=.go g1 w1 es):Goes1 P' P X pass base w.heap.size g1 w1 (stepG.apply P true fr (cs++base) none s' w'):=by
 have hr:=j3q T.tables hs w w' #[] hA hC;have hw:=jio hK h;have hke:(fr.kind==.early)=false:=by
  have:=hf.kind.1;cases hk:fr.kind<;>simp_all<;>decide
 unfold stepG.apply at h ⊢;simp only[if_true,hke,Bool.false_eq_true,if_false]at h ⊢;generalize s.runT P' w #[]=r at h hr hw;generalize s'.runT P w' #[]=r' at hr;obtain⟨r,es1⟩:=r;cases r with
 | halt hh w2=>
  obtain rfl:w2=w1:=hw;rcases hr with hd|hr
  ·rcases hd with⟨u,rfl,hu⟩|⟨s,rfl⟩
   ·cases u with
    | initOrder g=>exact absurd rfl (hu g)
    | _=>simp only[GStep.after]at h;cases h
   ·simp only[GStep.after]at h;cases h
  ·obtain⟨w2',new,rfl,he,hch,hA2,hC2,hsz,hev⟩:=hr hp;cases hh with
   | panic v=>
    simp only[GStep.after]at h ⊢;cases h;refine⟨w2',_,hA2,hC2,hsz,j2e (by simpa[he]using hev),.inl ⟨rfl,hf.raise (by intro e he;simp at he;subst he;exact hch),hcs,rfl,rfl,rfl⟩⟩
   | _=>exact hch.elim
 | ok x w2=>
  obtain rfl:w2=w1:=hw;obtain⟨w2',new,rfl,he,hq,hA2,hC2,hsz,hev⟩:=hr hp;have hev':∀e∈es1,EvC X w2 e:=by rw[he];simpa using hev
  cases x with
  | value v=>
   simp only[GStep.after]at h ⊢;cases h;exact⟨w2',_,hA2,hC2,hsz,j2e hev',.inl ⟨rfl,hf.finish hq,hcs,rfl,rfl,rfl⟩⟩
  | skip=>
   simp only[GStep.after]at h ⊢;cases h;exact⟨w2',_,hA2,hC2,hsz,j2e hev',.inl ⟨rfl,hf.finish j3w,hcs,rfl,rfl,rfl⟩⟩
  | enter f args=>
   obtain⟨ha,hk⟩:=hq;simp only[GStep.after]at h ⊢;cases h;rcases hk with⟨hne,hfe,fn,hfn,hb⟩|rfl
   ·have e1:∀k,Frame.enter P' f args k=Frame.enter P f args k:=λk=>by simp only[Frame.enter,hfe]
    refine⟨w2',_,hA2,hC2,hsz,j2e hev',.inl ⟨by rw[e1];rfl,?_,?_,rfl,rfl,rfl⟩⟩
    ·rw[e1];exact(CF.enter T ha (by split<;>exact⟨by simp,by simp⟩) hne hfe hfn hb).2
    ·intro c hc;simp only[List.mem_cons]at hc;rcases hc with rfl|hc
     ·exact hf
     ·exact hcs c hc
   ·exact⟨w2',_,hA2,hC2,hsz,j2e hev',.inr ⟨args,_,fr,cs,by split<;>simp,by split<;>simp,ha,hf,hcs,rfl,rfl⟩⟩
  | defer d=>
   simp only[GStep.after]at h ⊢;cases h;have hd:∀d'∈d::fr.defers,CD X d':=λd' hd'=>(List.mem_cons.1 hd').elim (λe=>e▸hq) (hf.defers d');have hfd:CF P' P X { fr with defers:=d::fr.defers }:=⟨hf.tmps,hf.todo,hd,hf.mode,hf.kind,hf.round,hf.fn⟩;exact⟨w2',_,hA2,hC2,hsz,j2e hev',.inl ⟨rfl,hfd.finish j3w,hcs,rfl,rfl,rfl⟩⟩
  | recover=>
   simp only[hf.round,GStep.after,j3c hbase]at h ⊢;cases hrec:tryRecover fr cs with
   | none=>
    simp only[hrec,Option.map_none,Option.map_some]at h ⊢;cases h;exact⟨w2',_,hA2,hC2,hsz,j2e hev',.inl ⟨rfl,hf.finish .nilIface,hcs,rfl,rfl,rfl⟩⟩
   | some r=>
    obtain⟨v,cs'⟩:=r;simp only[hrec,Option.map_none,Option.map_some]at h ⊢;cases h;obtain⟨h1,h2⟩:=j5o hf hcs hrec;exact⟨w2',_,hA2,hC2,hsz,j2e hev',.inl ⟨rfl,hf.finish h1,h2,rfl,rfl,rfl⟩⟩
  | _=>exact hq.elim
theorem j42 (H:Pair P' P X){fn:Func}{tmps:Array Value}(h:∀v∈tmps,CV X v):Cl P' P X (CV X) (results fn tmps) (results fn tmps):=by
 unfold results;refine(jot (R:=CV X) (λr=>?_) _).bind λvs hvs=>j7 ?_
 ·cases r with
  | tmp t=>exact j7 (jj4 h j3w t)
  | cell a t=>exact(j5u H (jj4 h j3w a)).bind λb hb=>j41 H hb
 ·split
  ·exact hvs _ (Array.getElem_mem _)
  ·exact .tuple hvs
theorem j4q {v:Value}{c:Frame}(hk0:fr.kind≠.early/\fr.kind≠.report)(hc:CF P' P X c)(hcs:∀c∈cs,CF P' P X c)(hv:CV X v) :
  ∃c',CF P' P X c'/\∀(Pq:Program) (cs:List Frame) (w:World),doReturn Pq true fr (c::cs) none v w=.go { frame:=c',callers:=cs,status:=.running,dying:=none } w:=by
 cases hk:fr.kind with
 | normal=>exact⟨c.finish v,hc.finish hv,λ_ _ _=>by simp only[doReturn,hk]⟩
 | wrapped=>exact⟨c.finish v,hc.finish hv,λ_ _ _=>by simp only[doReturn,hk]⟩
 | early=>exact absurd hk hk0.1
 | report=>exact absurd hk hk0.2
 | deferred=>
  simp only[doReturn,hk];refine⟨_,?_,λ_ _ _=>rfl⟩;split
  ·rename_i e older em
   split
   ·exact⟨hc.tmps,hc.todo,hc.defers,(by intro ch ech;cases ech),hc.kind,hc.round,hc.fn⟩
   ·refine⟨hc.tmps,hc.todo,hc.defers,?_,hc.kind,hc.round,hc.fn⟩;intro ch ech x hx;cases ech;refine hc.mode _ em x (List.mem_cons_of_mem _ ?_);have hsub:∀(l:List PanicEntry) (p:PanicEntry->Bool),x∈l.dropWhile p->x∈l:=λl p h=>(List.dropWhile_sublist p).subset h;exact hsub _ _ hx
  ·exact hc
theorem j7e [Stays](hbase:BaseOk base)(T:Twin P' P X pass)(hf:CF P' P X fr)(hcs:∀c∈cs,CF P' P X c){d:Deferred}(hd:CD X d)(hA:Agree X w w')(hC:CW X w)(hK:RunK P' (invoke d.target d.args) w)(hp:∀b,w.heap.size<=b->b<w1.heap.size->¬X b)
  (h:callDeferred P' fr cs none d w=.go g1 w1 es):Goes1 P' P X pass base w.heap.size g1 w1 (callDeferred P fr (cs++base) none d w'):=by
 have hw:=jd8 hK h;obtain⟨tg,dargs⟩:=d;have hr:=j3q T.tables (j5w T.call T.toPair hd) w w' #[] hA hC;simp only at hr hw;unfold callDeferred at h ⊢;cases tg<;>cases hm:fr.mode
 case nil.panicking=>rw[if_pos (by simp[hm])]at h;cases h
 all_goals
  rw[if_neg (by simp[hm])]at h;rw[if_neg (by simp[hm])];revert h hr hw;generalize Sem.runT P' (invoke _ dargs) w #[]=r;generalize Sem.runT P (invoke _ dargs) w' #[]=r';intro h hw hr;obtain⟨r,es1⟩:=r;cases r with
  | halt hh w2=>
   obtain rfl:w2=w1:=hw;rcases hr with hdd|hr
   ·rcases hdd with⟨u,rfl,hu⟩|⟨s,rfl⟩<;>simp only[GStep.after]at h<;>cases h
   ·obtain⟨w2',new,rfl,he,hch,hA2,hC2,hsz,hev⟩:=hr hp;cases hh with
    | panic v=>
     simp only[GStep.after]at h ⊢;cases h;refine⟨w2',_,hA2,hC2,hsz,j2e (by simpa[he]using hev),.inl ⟨rfl,hf.raise (by intro e he;simp at he;subst he;exact hch),hcs,rfl,rfl,rfl⟩⟩
    | _=>exact hch.elim
  | ok x w2=>
   obtain rfl:w2=w1:=hw;obtain⟨w2',new,rfl,he,hq,hA2,hC2,hsz,hev⟩:=hr hp;have hev':∀e∈es1,EvC X w2 e:=by rw[he];simpa using hev
   have still:Goes1 P' P X pass base w.heap.size { frame:=fr,callers:=cs,status:=.running,dying:=none } w2 (.go { frame:=fr,callers:=cs++base,status:=.running,dying:=none } w2' (seen P fr.fn es1++#[])):=
    ⟨w2',_,hA2,hC2,hsz,j2e hev',.inl ⟨rfl,hf,hcs,rfl,rfl,rfl⟩⟩
   cases x with
   | value v=>
    simp only[GStep.after]at h ⊢;cases h;exact still
   | skip=>
    simp only[GStep.after]at h ⊢;cases h;exact still
   | enter f args=>
    obtain⟨ha,hk⟩:=hq;simp only[GStep.after]at h ⊢;cases h;rcases hk with⟨hne,hfe,fn,hfn,hb⟩|rfl
    ·obtain⟨e1,e2⟩:=CF.enter T ha (kind:=.deferred) ⟨by simp,by simp⟩ hne hfe hfn hb;exact⟨w2',_,hA2,hC2,hsz,j2e hev',.inl ⟨by rw[e1];rfl,by rw[e1];exact e2,λc hc=>(List.mem_cons.1 hc).elim (λe=>e▸hf) (hcs c),rfl,rfl,rfl⟩⟩
    ·exact⟨w2',_,hA2,hC2,hsz,j2e hev',.inr ⟨args,.deferred,fr,cs,by simp,by simp,ha,hf,hcs,rfl,rfl⟩⟩
   | defer d=>
    simp only[GStep.after]at h ⊢;cases h;exact still
   | recover=>
    simp only[GStep.after,hm,j3c hbase]at h ⊢;cases hrec:tryRecover fr cs with
    | none=>
     try simp only[hrec,Option.map_none,Option.map_some]at h ⊢
     cases h;exact still
    | some r=>
     obtain⟨v,cs'⟩:=r;try simp only[hrec,Option.map_none,Option.map_some]at h ⊢
     cases h;obtain⟨h1,h2⟩:=j5o hf hcs hrec;first
     | exact still
     | exact⟨w2',_,hA2,hC2,hsz,j2e hev',.inl ⟨rfl,hf,h2,rfl,rfl,rfl⟩⟩
   | _=>exact hq.elim
theorem jd9 {v:Value}{c:Frame}(hk:fr.kind≠.early/\fr.kind≠.report):∃c',∀(Pq:Program)(cs:List Frame)(w:World),doReturn Pq true fr (c::cs) none v w=.go { frame:=c',callers:=cs,status:=.running,dying:=none } w:=by
 cases hkk:fr.kind with
 | early=>exact absurd hkk hk.1
 | report=>exact absurd hkk hk.2
 | _=>exact⟨_,λ_ _ _=>by simp only[doReturn,hkk];rfl⟩
theorem ja5 [Stays](hbase:BaseOk base)(T:Twin P' P X pass)(hf:CF P' P X fr)(hcs:∀c∈cs,CF P' P X c)(hA:Agree X w w')(hC:CW X w)(hK:∀d∈fr.defers,RunK P' (invoke d.target d.args) w)(hp:∀b,w.heap.size<=b->b<w1.heap.size->¬X b)(hne:fr.defers=[]->cs≠[])
  (h:unwind P' true fr cs none w=.go g1 w1 es):Goes1 P' P X pass base w.heap.size g1 w1 (unwind P true fr (cs++base) none w'):=by
 obtain⟨fn,hfn⟩:=hf.fn.2;unfold unwind at h ⊢;cases hd:fr.defers with
 | nil=>
  simp only[hd]at h ⊢;obtain⟨c,cs',rfl⟩:∃c cs',cs=c::cs':=by
   cases cs with
   | nil=>exact absurd rfl (hne hd)
   | cons c cs'=>exact⟨c,cs',rfl⟩
  have hc:=hcs c List.mem_cons_self;simp only[List.cons_append]at h ⊢;have hcs':∀x∈cs',CF P' P X x:=λx hx=>hcs x (List.mem_cons_of_mem _ hx);cases hm:fr.mode with
  | run=>simp only[hm]at h;cases h
  | panicking chain=>
   have hcat:∀p:Program,p.funcs[fr.fn]?=some fn->fr.catches p=false:=λp hp=>by unfold Frame.catches;rw[hp]
   simp only[hm,hcat P' (by rw[hf.fn.1];exact hfn),hcat P hfn,Bool.false_eq_true,if_false]at h ⊢;cases h;exact j6f hA hC (hc.raise (hf.mode _ hm)) hcs' rfl rfl rfl
  | returning=>
   simp only[hm,hf.fn.1,hfn]at h ⊢;have hr:=j3q T.tables (j42 T.toPair (fn:=fn) hf.tmps) w w' #[] hA hC;generalize(results fn fr.tmps).runT P' w #[]=r at h hr;generalize(results fn fr.tmps).runT P w' #[]=r' at hr;obtain⟨r,es1⟩:=r;cases r with
   | halt hh w2=>
    cases hh<;>simp only[GStep.after]at h<;>cases h
   | ok v w2=>
    obtain rfl:w2=w1:=by
     obtain⟨fr2,e2⟩:=jd9 (fr:=fr) (c:=c) (v:=v) hf.kind;simp only[e2,GStep.after]at h;cases h;rfl
    obtain⟨w2',new,rfl,he,hq,hA2,hC2,hsz,hev⟩:=hr hp;have hev':∀e∈es1,EvC X w2 e:=by rw[he];simpa using hev
    obtain⟨c',hc',hret⟩:=j4q hf.kind hc hcs' hq;simp only[hret,GStep.after]at h ⊢;cases h;exact⟨w2',_,hA2,hC2,hsz,j2e hev',.inl ⟨rfl,hc',hcs',rfl,rfl,rfl⟩⟩
 | cons d ds=>
  have hdd:=hf.defers d (by rw[hd];exact List.mem_cons_self);have hfd:CF P' P X { fr with defers:=ds }:=⟨hf.tmps,hf.todo,λx hx=>hf.defers x (by rw[hd];exact List.mem_cons_of_mem _ hx),hf.mode,hf.kind,hf.round,hf.fn⟩;obtain⟨tg,args⟩:=d;cases tg with
  | collected r=>exact hdd.target.elim
  | coroexit c=>exact hdd.target.elim
  | _=>
   simp only[hd]at h ⊢;exact j7e hbase T hfd hcs hdd hA hC (hK _ (by rw[hd];exact List.mem_cons_self)) hp h
end
end Go.Proofs.Mn
namespace Go.Proofs.Mn
open Go Go.Conc
variable [Atom]
structure CG (P' P:Program)(X:Nat->Prop)(g:Goroutine):Prop where
 frame:CF P' P X g.frame
 callers:∀c∈g.callers,CF P' P X c
 status:g.status=.running
 dying:g.dying=none
 offers:g.offers=none
section
variable {P' P:Program}{X:Nat->Prop}{pass:FuncId}{base:List Frame}{fr:Frame}{cs:List Frame}{w w' w1:World}{es:Array Event}{g g1:Goroutine}
theorem jdz {id:Nat}:∀{k k':List Item},exitTo id k=some k'->∀i∈k',i∈k:=by
 intro k;induction k with
 | nil=>intro k' h;cases h
 | cons x k ih=>
  intro k' h i hi;unfold exitTo at h;split at h
  ·split at h
   ·rename_i e _;cases e;cases h;exact List.mem_cons_of_mem _ hi
   ·rename_i e _;cases e;exact List.mem_cons_of_mem _ (ih h i hi)
  ·rename_i e;cases e;exact List.mem_cons_of_mem _ (ih h i hi)
  ·rename_i e;cases e
theorem CG.mono {X Y:Nat->Prop}{g:Goroutine}(hXY:∀b,Y b->X b)(h:CG P' P X g):CG P' P Y g:=⟨h.frame.mono hXY,λc hc=>(h.callers c hc).mono hXY,h.status,h.dying,h.offers⟩
theorem jcs [Stays](hbase:BaseOk base)(T:Twin P' P X pass)(T0:Twin P' P (cut X w) pass)(hg:CG P' P X g)(hA:Agree X w w')(hC:CW X w)(hp:∀b,w.heap.size<=b->b<w1.heap.size->¬X b)(hne:g.callers=[]->g.frame.mode=.run\/g.frame.defers≠[])
  (h:stepG P' true g w=.go g1 w1 es):Goes1 P' P X pass base w.heap.size g1 w1 (stepG P true (g.over base) w'):=by
 have hK0:∀d∈g.frame.defers,RunK P' (invoke d.target d.args) w:=λd hd=>by
  have hd0:CD (cut X w) d:=CD.mono jj3 (hg.frame.defers d hd);exact jr8 T0.tables (j5w T0.call T0.toPair hd0) (hA.cutA) hC.cutW
 obtain⟨⟨fn,tmps,todo,defers,mode,kind,ro⟩,cs,st,dy,off⟩:=g;obtain⟨hf,hcs,hst,hdy,hoff⟩:=hg;simp only at hf hcs hst hdy hoff hne hK0;have hro:=hf.round;simp only at hro;subst hst hdy hoff hro;have still:∀todo':List Item,(∀i∈todo',okItem P.globals.size i=true)->Goes1 P' P X pass base w.heap.size { frame:={ fn,tmps,todo:=todo',defers,mode,kind,roundOf:=none },callers:=cs,status:=.running,dying:=none } w (.go { frame:={ fn,tmps,todo:=todo',defers,mode,kind,roundOf:=none },callers:=cs++base,status:=.running,dying:=none } w'):=λtodo' ht=>
  j6f hA hC (hf.to ht) hcs rfl rfl rfl
 have ret:Goes1 P' P X pass base w.heap.size { frame:={ fn,tmps,todo,defers,mode:=.returning,kind,roundOf:=none },callers:=cs,status:=.running,dying:=none } w (.go { frame:={ fn,tmps,todo,defers,mode:=.returning,kind,roundOf:=none },callers:=cs++base,status:=.running,dying:=none } w'):=
  j6f hA hC ⟨hf.tmps,hf.todo,hf.defers,(by intro ch e;cases e),hf.kind,rfl,hf.fn⟩ hcs rfl rfl rfl
 cases mode with
 | returning=>
  exact ja5 hbase T hf hcs hA hC hK0 hp (λhd hc=>by rcases hne hc with h1|h1;cases h1;exact h1 hd) h
 | panicking ch=>
  exact ja5 hbase T hf hcs hA hC hK0 hp (λhd hc=>by rcases hne hc with h1|h1;cases h1;exact h1 hd) h
 | run=>
  replace h:stepG.exec P' true true { fn,tmps,todo,defers,mode:=.run,kind,roundOf:=none } cs none w=.go g1 w1 es:=h;show Goes1 P' P X pass base w.heap.size g1 w1 (stepG.exec P true true { fn,tmps,todo,defers,mode:=.run,kind,roundOf:=none } (cs++base) none w');unfold stepG.exec at h ⊢;cases todo with
  | nil=>cases h;exact ret
  | cons i k=>
   have hi:=hf.todo i List.mem_cons_self;have hk:∀x∈k,okItem P.globals.size x=true:=λx hx=>hf.todo x (List.mem_cons_of_mem _ hx);have two:∀{a b:Item},okItem P.globals.size a=true->okItem P.globals.size b=true->∀x∈a::b::k,okItem P.globals.size x=true:=λha hb x hx=>by
    rcases List.mem_cons.1 hx with rfl|hx
    ·exact ha
    ·rcases List.mem_cons.1 hx with rfl|hx
     ·exact hb
     ·exact hk x hx
   have one:∀{a:Item},okItem P.globals.size a=true->∀x∈a::k,okItem P.globals.size x=true:=λha x hx=>(List.mem_cons.1 hx).elim (λe=>e▸ha) (hk x);cases i with
   | inBlock id=>cases h;exact still k hk
   | inLoop b=>cases h;exact still _ (two hi hi)
   | inRegion ops l=>
    cases l with
    | nil=>cases h;exact still k hk
    | cons i l=>
     dsimp only at h ⊢;split at h
     ·rename_i hw
      rw[if_pos hw];unfold stepG.oper at h ⊢;cases ho:(ops[i]?)with
      | none=>simp only[Frame.oper?,ho]at h;cases h
      | some o=>
       simp only[Frame.oper?,ho]at h ⊢;have hoo:okOp P.globals.size o.op=true:=List.all_eq_true.1 hi o (by simpa using Array.mem_of_getElem? ho);exact jil hbase T hf hcs (j7h T.call T.toPair hoo (hf.eval T.toPair)) hA hC (jr8 T0.tables (j7h T0.call T0.toPair hoo ((hf.mono jj3).eval T0.toPair)) hA.cutA hC.cutW) hp h
     ·rename_i hw
      rw[if_neg hw];cases h;exact j6f hA hC (hf.finish j3w) hcs rfl rfl rfl
   | code c=>
    cases c with
    | skip=>cases h;exact still k hk
    | ret=>cases h;exact ret
    | seq a b=>
     cases h;simp only[okItem,okCode,Bool.and_eq_true]at hi;exact still _ (two hi.1 hi.2)
    | block id b=>cases h;exact still _ (two hi rfl)
    | loop b=>cases h;exact still _ (two hi hi)
    | cond c a b=>
     simp only[okItem,okCode,Bool.and_eq_true]at hi;have hev:∀t,Frame.eval { fn,tmps,todo:=.code (.cond c a b)::k,defers,mode:=.run,kind,roundOf:=none } t=Frame.eval { fn,tmps,todo:=.code (.cond c a b)::k,defers,mode:=.run,kind,roundOf:=none } t:=λ_=>rfl;dsimp only at h ⊢;generalize Frame.eval { fn,tmps,todo:=.code (.cond c a b)::k,defers,mode:=.run,kind,roundOf:=none } c=v at h ⊢;cases v with
     | bool t=>
      cases h;refine still _ (one ?_);cases t
      ·exact hi.2
      ·exact hi.1.2
     | _=>cases h
    | exit id=>
     dsimp only at h ⊢;cases he:exitTo id k with
     | none=>rw[he]at h;cases h
     | some k'=>
      rw[he]at h;cases h;exact still _ λx hx=>hk x (jdz he x hx)
    | region id ops draw=>
     cases draw with
     | false=>cases h;exact still _ (one hi)
     | true=>
      have key:∀(Q:Program) (w:World),(choose (.order fn id)).run Q w=.ok (Question.cut (.order fn id) (w.tape w.drawn (.order fn id))) { w with drawn:=w.drawn+1 }:=λ_ _=>rfl;dsimp only[Bool.not_true]at h ⊢;simp only[Bool.false_eq_true,if_false,key,jrl T.tables,hA.tape,hA.drawn]at h ⊢;cases h;exact⟨{ w' with tape:=w.tape,drawn:=w.drawn+1 },#[],⟨rfl,rfl,hA.os,hA.output,hA.size,hA.block,hA.keep⟩,⟨hC.obj⟩,Nat.le_refl _,by simp,.inl ⟨rfl,hf.to (one hi),hcs,rfl,rfl,rfl⟩⟩
    | refuse why=>cases h
    | rangeFunc f ps a b=>cases hi
    | scope b=>cases hi
    | label l=>cases hi
    | goto l=>cases hi
   | inScope b=>cases hi
   | inRangeFunc l=>cases hi
   | endRangeFunc l=>cases hi
   | beginRound=>cases hi
   | call d wr re sv=>cases hi
   | extern r a=>cases hi
end
end Go.Proofs.Mn
namespace Go.Proofs.Mn
open Go Go.Conc
variable [Atom]
def _root_.Go.World.on (w:World)(τ:Nat->Question->Nat)(d:Nat):World:={ w with tape:=τ,drawn:=d }
def _root_.Go.Result.on {α:Type}(r:Result α)(τ:Nat->Question->Nat)(d:Nat):Result α:=
 match r with
 | .ok a w=>.ok a (w.on τ d)
 | .halt h w=>.halt h (w.on τ d)
def Same (k:Nat)(τ:Nat->Question->Nat)(d:Nat)(τ':Nat->Question->Nat)(d':Nat):Prop:=∀i,i<k->∀q,τ' (d'+i) q=τ (d+i) q
section
variable {P' P:Program}{X:Nat->Prop}{α:Type}{Q:α->Prop}{τ:Nat->Question->Nat}{d:Nat}{w:World}
theorem jii {a:Addr}{u:TypeId}{k:Addr}{v:Value}{b:Bool}:World.viewStore P (w.on τ d) a u k v b=(World.viewStore P w a u k v b).map λr=>(r.1.on τ d,r.2):=by
 unfold World.viewStore;have hs:World.seen P (w.on τ d) a u k b=World.seen P w a u k b:=rfl;rw[hs];simp only[bind,Except.bind,pure,Except.pure,throw,throwThe,MonadExceptOf.throw];split
 ·rfl
 ·cases World.seen P w a u k b with
  | error e=>rfl
  | ok r=>
   obtain⟨c,e,fr,first,like,cells⟩:=r;simp only;split
   ·split
    ·rfl
    ·split
     ·rfl
     ·rfl
   ·rfl
theorem jji {a:Addr}{v:Value}{b:Bool}:World.farStore P (w.on τ d) a v b=(World.farStore P w a v b).map λr=>(r.1.on τ d,r.2):=by
 unfold World.farStore;have hh:(w.on τ d).heap=w.heap:=rfl;rw[hh];split
 ·rename_i at_ u _
  rw[jii];cases World.viewStore P w at_ u a v b<;>rfl
 ·rfl
theorem jpt {a:Addr}{n:Nat}:(w.on τ d).freeze a n=(w.freeze a n).on τ d:=by
 unfold World.freeze;split<;>rfl
theorem ji2 (hT:P'.toTables=P.toTables){t t':Sem α}(h:Cl P' P X Q t t'):∀(w:World)(es:Array Event)(τ:Nat->Question->Nat)(d:Nat),CWd X w->∃k r es1,∀τ' d',Same k τ d τ' d'->t.runT P' (w.on τ' d') es=(Result.on r τ' (d'+k),es1):=by
 have lift:∀{s:Sem α} {w:World} {es:Array Event} {τ d} {F:(Nat->Question->Nat)->Nat->Result α×Array Event},(∃k r es1,∀τ' d',Same k τ d τ' d'->s.runT P' (w.on τ' d') es=(Result.on r τ' (d'+k),es1)) ->
   (∀τ' d',F τ' d'=s.runT P' (w.on τ' d') es)->∃k r es1,∀τ' d',Same k τ d τ' d'->F τ' d'=(Result.on r τ' (d'+k),es1):=λ⟨k,r,es1,h⟩ hF=>⟨k,r,es1,λτ' d' hs=>(hF τ' d').trans (h τ' d' hs)⟩
 have over:∀{hh:Halt} {w:World} {es:Array Event} {τ d} {F:(Nat->Question->Nat)->Nat->Result α×Array Event},(∀τ' d',F τ' d'=(.halt hh (w.on τ' d'),es)) ->
   ∃k r es1,∀τ' d',Same k τ d τ' d'->F τ' d'=(Result.on r τ' (d'+k),es1):=λ{hh w es τ d F} hF=>⟨0,.halt hh w,es,λτ' d' _=>hF τ' d'⟩
 induction h with
 | @pure a hq=>exact λw es τ d _=>⟨0,.ok a w,es,λτ' d' _=>rfl⟩
 | @load m a k k' ha _ ih=>
  intro w es τ d hC;have e1:∀τ' d',(w.on τ' d').cell? a=w.cell? a:=λ_ _=>rfl;have e2:∀τ' d',(w.on τ' d').farLoad P' a (m==.atomic)=w.farLoad P' a (m==.atomic):=λ_ _=>rfl;simp only[Sem.runT,e1,e2];cases hc:w.cell? a with
  | some v=>exact lift (ih v (hC.cell ha hc).1 w (es.push ⟨.cell a,false,m==.atomic⟩) τ d hC) λ_ _=>rfl
  | none=>
   cases hf:w.farLoad P' a (m==.atomic)with
   | error hh=>exact over (hh:=hh) (w:=w) (es:=es) λ_ _=>rfl
   | ok r=>exact lift (ih r.1 (j90 hC.toCW ha (v:=r.1) (l:=r.2) hf).1 w (es++r.2.toArray.map (⟨.cell ·,false,m==.atomic⟩)) τ d hC) λ_ _=>rfl
 | @store m a v k k' ha hv _ ih=>
  intro w es τ d hC;have e1:∀τ' d',(w.on τ' d').cell? a=w.cell? a:=λ_ _=>rfl;have e3:∀τ' d',(w.on τ' d').frozen? a=w.frozen? a:=λ_ _=>rfl;cases v with
  | agg cs=>exact over (hh:=.stuck "store: not the value of one cell") (w:=w) (es:=es) λ_ _=>rfl
  | tuple cs=>exact over (hh:=.stuck "store: not the value of one cell") (w:=w) (es:=es) λ_ _=>rfl
  | _=>
   simp only[Sem.runT,e1,e3,jji];cases hc:w.cell? a with
   | some u=>
    cases hz:w.frozen? a with
    | true=>exact over (hh:=.unsupported (.unsafePointer "a write to bytes that a string shares")) (w:=w) (es:=es) λ_ _=>rfl
    | false=>exact lift (ih (w.setCell a _) (es.push ⟨.cell a,true,m==.atomic⟩) τ d (hC.setCell hv)) λ_ _=>rfl
   | none=>
    cases hf:w.farStore P' a _ (m==.atomic)with
    | error hh=>exact over (hh:=hh) (w:=w) (es:=es) λ_ _=>rfl
    | ok r=>
     letI:Stays:=Stays.none
     obtain⟨_,_,_,hC1,_,_⟩:=j7y hT (Agree.same X w) hC.toCW ha (w1:=r.1) (l:=r.2) hf;replace hC1:=hC.grow hC1 (Nat.le_of_eq (j5j hf));exact lift (ih r.1 (es++r.2.toArray.map (⟨.cell ·,true,m==.atomic⟩)) τ d hC1) λ_ _=>rfl
 | @new o k k' ho _ ih=>exact λw es τ d hC=>lift (ih w.heap.size hC.fresh { w with heap:=w.heap.push o } es τ d (hC.push ho)) λ_ _=>rfl
 | @shape r k k' hr _ ih=>exact λw es τ d hC=>lift (ih (w.shape? r) w es τ d hC) λ_ _=>rfl
 | @freeze a n k k' ha _ ih=>
  intro w es τ d hC;exact lift (ih (w.freeze a n) es τ d (hC.freeze n)) λ_ _=>by simp only[Sem.runT,jpt]
 | @frozen a k k' ha _ ih=>exact λw es τ d hC=>lift (ih (w.frozen? a) w es τ d hC) λ_ _=>rfl
 | @getObj r k k' hr _ ih=>
  intro w es τ d hC;have e1:∀τ' d',(w.on τ' d').heap=w.heap:=λ_ _=>rfl;simp only[Sem.runT,e1];cases ho:w.heap[r]? with
  | none=>exact over (hh:=.stuck "getObj: no such block") (w:=w) (es:=es) λ_ _=>rfl
  | some o=>
   cases o with
   | cells c e f=>exact over (hh:=.stuck "getObj: a row of cells") (w:=w) (es:=es) λ_ _=>rfl
   | _=>exact lift (ih _ (hC.obj r _ ho hr) w (es.push _) τ d hC) λ_ _=>rfl
 | @setObj r o k k' hr ho hch _ ih=>
  intro w es τ d hC;have e1:∀τ' d',(w.on τ' d').heap=w.heap:=λ_ _=>rfl;simp only[Sem.runT,e1];cases ho':w.heap[r]? with
  | none=>exact over (hh:=.stuck "setObj: no such block") (w:=w) (es:=es) λ_ _=>rfl
  | some o'=>
   cases o' with
   | cells c e f=>exact over (hh:=.stuck "setObj: a row of cells") (w:=w) (es:=es) λ_ _=>rfl
   | _=>exact lift (ih { w with heap:=w.heap.setIfInBounds r o } (es.push _) τ d (hC.set ho)) λ_ _=>rfl
 | @choose q k k' _ ih=>
  intro w es τ d hC;simp only[Sem.runT];split
  ·exact lift (ih 0 w es τ d hC) λ_ _=>rfl
  ·obtain⟨k1,r,es1,h1⟩:=ih (q.cut (τ d q)) w es τ (d+1) hC;refine⟨k1+1,r,es1,λτ' d' hs=>?_⟩;have e0:τ' d' q=τ d q:=by have:=hs 0 (by omega) q;simpa using this
   have:=h1 τ' (d'+1) (λi hi q'=>by have:=hs (i+1) (by omega) q';rw[show d'+1+i=d'+(i+1) by omega,show d+1+i=d+(i+1) by omega];exact this);show(k (q.cut (τ' d' q))).runT P' (w.on τ' (d'+1)) es=_;rw[e0,this,show d'+1+k1=d'+(k1+1) by omega]
 | @env k k' _ ih=>exact λw es τ d hC=>lift (ih (.strings w.os.env) w (es.push ⟨.output,true,false⟩) τ d hC) λ_ _=>rfl
 | @program k k' _ ih=>exact λw es τ d hC=>lift (ih w es τ d hC) λ_ _=>rfl
 | @mark m k k' hm _ ih=>exact λw es τ d hC=>lift (ih w (es.push ⟨.mark m,false,true⟩) τ d hC) λ_ _=>rfl
 | @halt h hh=>exact λw es τ d _=>⟨0,.halt h w,es,λτ' d' _=>rfl⟩
 | @dead h t hh=>exact λw es τ d _=>⟨0,.halt h w,es,λτ' d' _=>rfl⟩
 | @deadM m h t hh=>exact λw es τ d _=>⟨0,.halt h w,_,λτ' d' _=>rfl⟩
end
end Go.Proofs.Mn
namespace Go.Proofs.Mn
open Go Go.Conc
variable [Atom]
def LocalAt (F:World->GStep)(w:World)(τ:Nat->Question->Nat)(d:Nat):Prop:=
 (∃(k:Nat)(g1:Goroutine)(w1:World)(es:Array Event),∀τ' d',Same k τ d τ' d'->F (w.on τ' d')=.go g1 (w1.on τ' (d'+k)) es)\/∃k,∀τ' d',Same k τ d τ' d'->∃o w2 es,F (w.on τ' d')=.ended o w2 es
theorem j50 (k:Nat)(τ:Nat->Question->Nat)(d:Nat):Same k τ d τ d:=λ_ _ _=>rfl
section
variable {P' P:Program}{X:Nat->Prop}{pass:FuncId}{fr:Frame}{cs:List Frame}{w:World}{τ:Nat->Question->Nat}{d:Nat}{g:Goroutine}
theorem j1l {F:World->GStep}{g1:Goroutine}{es:Array Event}(h:∀w,F w=.go g1 w es):LocalAt F w τ d:=.inl ⟨0,g1,w,es,λ_ _ _=>h _⟩
theorem j64 {F:World->GStep}(h:∀w,∃o w2 es,F w=.ended o w2 es):LocalAt F w τ d:=.inr ⟨0,λ_ _ _=>h _⟩
theorem jax (T:Pair P' P X){α:Type}{Q:α->Prop}{s:Sem α}(hs:Cl P' P X Q s s)(hC:CWd X w)(τ:Nat->Question->Nat)(d:Nat) :
  (∃(k:Nat)(a:α)(w1:World)(es1:Array Event),Q a/\∀τ' d',Same k τ d τ' d'->s.runT P' (w.on τ' d') #[]=(.ok a (w1.on τ' (d'+k)),es1)) \/
  (∃(k:Nat)(v:Value)(w1:World)(es1:Array Event),∀τ' d',Same k τ d τ' d'->s.runT P' (w.on τ' d') #[]=(.halt (.panic v) (w1.on τ' (d'+k)),es1)) \/
  (∃(k:Nat)(hh:Halt)(w1:World)(es1:Array Event),Dead hh/\∀τ' d',Same k τ d τ' d'->s.runT P' (w.on τ' d') #[]=(.halt hh (w1.on τ' (d'+k)),es1)):=by
 obtain⟨k,r,es1,hr⟩:=ji2 T.tables hs w #[] τ d hC;have hCo:CWd X (w.on τ d):=⟨⟨hC.obj⟩,hC.dom⟩;have hp:∀n b,(w.on τ d).heap.size<=b->b<n->¬X b:=λn b h1 _ hx=>by have:=hCo.dom b hx;omega
 letI:Stays:=Stays.none
 have he:=j3q T.tables hs (w.on τ d) (w.on τ d) #[] (Agree.same X _) hCo.toCW;have h0:=hr τ d (j50 k τ d);rw[h0]at he;cases r with
 | ok a w1=>
  obtain⟨_,_,_,_,hq,_⟩:=he (hp _);exact .inl ⟨k,a,w1,es1,hq,hr⟩
 | halt hh w1=>
  rcases he with hd|he
  ·exact .inr (.inr ⟨k,hh,w1,es1,hd,hr⟩)
  ·obtain⟨_,_,_,_,hch,_⟩:=he (hp _);cases hh with
   | panic v=>exact .inr (.inl ⟨k,v,w1,es1,hr⟩)
   | _=>exact hch.elim
theorem jim (T:Twin P' P X pass)(hf:CF P' P X fr){s:Sem Next}(hs:Cl P' P X (CN P' P X pass) s s)(hC:CWd X w):LocalAt (stepG.apply P' true fr cs none s) w τ d:=by
 have hke:(fr.kind==.early)=false:=by
  have:=hf.kind.1;cases hk:fr.kind<;>simp_all<;>decide
 rcases jax T.toPair hs hC τ d with⟨k,x,w1,es1,hq,hr⟩|⟨k,v,w1,es1,hr⟩|⟨k,hh,w1,es1,hd,hr⟩
 ·cases x with
  | value v=>exact .inl ⟨k,_,w1,_,λτ' d' hsm=>by unfold stepG.apply;simp only[if_true,hr τ' d' hsm,hke,Bool.false_eq_true,if_false,GStep.after];rfl⟩
  | skip=>exact .inl ⟨k,_,w1,_,λτ' d' hsm=>by unfold stepG.apply;simp only[if_true,hr τ' d' hsm,hke,Bool.false_eq_true,if_false,GStep.after];rfl⟩
  | enter f args=>exact .inl ⟨k,_,w1,_,λτ' d' hsm=>by unfold stepG.apply;simp only[if_true,hr τ' d' hsm,hke,Bool.false_eq_true,if_false,GStep.after];rfl⟩
  | defer dd=>exact .inl ⟨k,_,w1,_,λτ' d' hsm=>by unfold stepG.apply;simp only[if_true,hr τ' d' hsm,hke,Bool.false_eq_true,if_false,GStep.after];rfl⟩
  | recover=>
   cases hrec:tryRecover fr cs with
   | none=>exact .inl ⟨k,_,w1,_,λτ' d' hsm=>by unfold stepG.apply;simp only[if_true,hr τ' d' hsm,hke,Bool.false_eq_true,if_false,GStep.after,hf.round,hrec];rfl⟩
   | some r=>exact .inl ⟨k,_,w1,_,λτ' d' hsm=>by unfold stepG.apply;simp only[if_true,hr τ' d' hsm,hke,Bool.false_eq_true,if_false,GStep.after,hf.round,hrec];rfl⟩
  | _=>exact hq.elim
 ·exact .inl ⟨k,_,w1,_,λτ' d' hsm=>by unfold stepG.apply;simp only[if_true,hr τ' d' hsm,hke,Bool.false_eq_true,if_false,GStep.after];rfl⟩
 ·refine .inr ⟨k,λτ' d' hsm=>?_⟩;unfold stepG.apply;simp only[if_true,hr τ' d' hsm,hke,Bool.false_eq_true,if_false];rcases hd with⟨u,rfl,hu⟩|⟨s,rfl⟩
  ·cases u with
   | initOrder g=>exact absurd rfl (hu g)
   | _=>exact⟨_,_,_,rfl⟩
  ·exact⟨_,_,_,rfl⟩
theorem j7f (T:Twin P' P X pass){dd:Deferred}(hd:CD X dd)(hC:CWd X w):LocalAt (callDeferred P' fr cs none dd) w τ d:=by
 obtain⟨tg,dargs⟩:=dd;have hb:=jax T.toPair (j5w T.call T.toPair hd) hC τ d;simp only at hb;cases tg<;>cases hm:fr.mode
 case nil.panicking=>exact j64 λw=>by unfold callDeferred;rw[if_pos (by simp[hm])];exact⟨_,_,_,rfl⟩
 all_goals
  rcases hb with⟨k,x,w1,es1,hq,hr⟩|⟨k,v,w1,es1,hr⟩|⟨k,hh,w1,es1,hdd,hr⟩
  ·cases x with
   | value v=>exact .inl ⟨k,_,w1,_,λτ' d' hsm=>by unfold callDeferred;rw[if_neg (by simp[hm])];simp only[hr τ' d' hsm,GStep.after];rfl⟩
   | skip=>exact .inl ⟨k,_,w1,_,λτ' d' hsm=>by unfold callDeferred;rw[if_neg (by simp[hm])];simp only[hr τ' d' hsm,GStep.after];rfl⟩
   | enter f args=>exact .inl ⟨k,_,w1,_,λτ' d' hsm=>by unfold callDeferred;rw[if_neg (by simp[hm])];simp only[hr τ' d' hsm,GStep.after];rfl⟩
   | defer dd=>exact .inl ⟨k,_,w1,_,λτ' d' hsm=>by unfold callDeferred;rw[if_neg (by simp[hm])];simp only[hr τ' d' hsm,GStep.after];rfl⟩
   | recover=>
    cases hrec:tryRecover fr cs with
    | none=>exact .inl ⟨k,_,w1,_,λτ' d' hsm=>by unfold callDeferred;rw[if_neg (by simp[hm])];simp only[hr τ' d' hsm,GStep.after,hm,hrec];rfl⟩
    | some r=>exact .inl ⟨k,_,w1,_,λτ' d' hsm=>by unfold callDeferred;rw[if_neg (by simp[hm])];simp only[hr τ' d' hsm,GStep.after,hm,hrec];rfl⟩
   | _=>exact hq.elim
  ·exact .inl ⟨k,_,w1,_,λτ' d' hsm=>by unfold callDeferred;rw[if_neg (by simp[hm])];simp only[hr τ' d' hsm,GStep.after];rfl⟩
  ·refine .inr ⟨k,λτ' d' hsm=>?_⟩;unfold callDeferred;rw[if_neg (by simp[hm])];simp only[hr τ' d' hsm];rcases hdd with⟨u,rfl,hu⟩|⟨s,rfl⟩<;>exact⟨_,_,_,rfl⟩
theorem ja6 (T:Twin P' P X pass)(hf:CF P' P X fr)(hcs:∀c∈cs,CF P' P X c)(hne:fr.defers=[]->cs≠[])(hC:CWd X w):LocalAt (unwind P' true fr cs none) w τ d:=by
 obtain⟨fn,hfn⟩:=hf.fn.2;cases hd:fr.defers with
 | nil=>
  obtain⟨c,cs',rfl⟩:∃c cs',cs=c::cs':=by
   cases cs with
   | nil=>exact absurd rfl (hne hd)
   | cons c cs'=>exact⟨c,cs',rfl⟩
  have hc:=hcs c List.mem_cons_self;have hcs':∀x∈cs',CF P' P X x:=λx hx=>hcs x (List.mem_cons_of_mem _ hx);cases hm:fr.mode with
  | run=>exact j64 λw=>by unfold unwind;simp only[hd,hm];exact⟨_,_,_,rfl⟩
  | panicking chain=>
   have hcat:∀p:Program,p.funcs[fr.fn]?=some fn->fr.catches p=false:=λp hp=>by unfold Frame.catches;rw[hp]
   exact j1l (g1:={ frame:=c.raise chain,callers:=cs',status:=.running,dying:=none }) (es:=#[]) λw=>by
    unfold unwind;simp only[hd,hm,hcat P' (by rw[hf.fn.1];exact hfn),Bool.false_eq_true,if_false]
  | returning=>
   rcases jax T.toPair (j42 T.toPair (fn:=fn) hf.tmps) hC τ d with⟨k,v,w1,es1,hq,hr⟩|⟨k,v,w1,es1,hr⟩|⟨k,hh,w1,es1,hdd,hr⟩
   ·obtain⟨c',hc',hret⟩:=j4q hf.kind hc hcs' hq;exact .inl ⟨k,_,w1,_,λτ' d' hsm=>by unfold unwind;simp only[hd,hm,hf.fn.1,hfn,hr τ' d' hsm,hret,GStep.after];rfl⟩
   ·refine .inr ⟨k,λτ' d' hsm=>?_⟩;unfold unwind;simp only[hd,hm,hf.fn.1,hfn,hr τ' d' hsm];exact⟨_,_,_,rfl⟩
   ·refine .inr ⟨k,λτ' d' hsm=>?_⟩;unfold unwind;simp only[hd,hm,hf.fn.1,hfn,hr τ' d' hsm];rcases hdd with⟨u,rfl,hu⟩|⟨s,rfl⟩<;>exact⟨_,_,_,rfl⟩
 | cons dd ds=>
  have hdd:=hf.defers dd (by rw[hd];exact List.mem_cons_self);have key:∀w,unwind P' true fr cs none w=callDeferred P' { fr with defers:=ds } cs none dd w:=λw=>by
   obtain⟨tg,args⟩:=dd;unfold unwind;cases tg with
   | collected r=>exact hdd.target.elim
   | coroexit c=>exact hdd.target.elim
   | _=>simp only[hd]
  have:=j7f (fr:={ fr with defers:=ds }) (cs:=cs) (τ:=τ) (d:=d) T hdd hC;unfold LocalAt at this ⊢;simp only[key];exact this
theorem jk9 (T:Twin P' P X pass)(hg:CG P' P X g)(hC:CWd X w)(hne:g.callers=[]->g.frame.mode=.run\/g.frame.defers≠[]):LocalAt (stepG P' true g) w τ d:=by
 obtain⟨⟨fn,tmps,todo,defers,mode,kind,ro⟩,cs,st,dy,off⟩:=g;obtain⟨hf,hcs,hst,hdy,hoff⟩:=hg;simp only at hf hcs hst hdy hoff hne;have hro:=hf.round;simp only at hro;subst hst hdy hoff hro;cases mode with
 | returning=>exact ja6 T hf hcs (λhd hc=>by rcases hne hc with h1|h1;cases h1;exact h1 hd) hC
 | panicking ch=>exact ja6 T hf hcs (λhd hc=>by rcases hne hc with h1|h1;cases h1;exact h1 hd) hC
 | run=>
  have key:∀w,stepG P' true { frame:={ fn,tmps,todo,defers,mode:=.run,kind,roundOf:=none },callers:=cs,status:=.running,dying:=none,offers:=none } w=stepG.exec P' true true { fn,tmps,todo,defers,mode:=.run,kind,roundOf:=none } cs none w:=λ_=>rfl;unfold LocalAt;simp only[key];show LocalAt (stepG.exec P' true true { fn,tmps,todo,defers,mode:=.run,kind,roundOf:=none } cs none) w τ d;cases todo with
  | nil=>exact j1l λ_=>rfl
  | cons i k=>
   have hi:=hf.todo i List.mem_cons_self;cases i with
   | inBlock id=>exact j1l λ_=>rfl
   | inLoop b=>exact j1l λ_=>rfl
   | inRegion ops l=>
    cases l with
    | nil=>exact j1l λ_=>rfl
    | cons i l=>
     by_cases hw:((ops[i]?).map (Region.wanted · (yielded ops tmps))).getD false=true
     ·cases ho:(ops[i]?)with
      | none=>rw[ho]at hw;cases hw
      | some o=>
       have hoo:okOp P.globals.size o.op=true:=List.all_eq_true.1 hi o (by simpa using Array.mem_of_getElem? ho);have h1:=jim (cs:=cs) (τ:=τ) (d:=d) T hf (j7h T.call T.toPair hoo (hf.eval T.toPair)) hC;have e:∀w,stepG.exec P' true true { fn,tmps,todo:=.inRegion ops (i::l)::k,defers,mode:=.run,kind,roundOf:=none } cs none w=stepG.apply P' true { fn,tmps,todo:=.inRegion ops (i::l)::k,defers,mode:=.run,kind,roundOf:=none } cs none (execOp (Frame.eval { fn,tmps,todo:=.inRegion ops (i::l)::k,defers,mode:=.run,kind,roundOf:=none }) o) w:=λw=>by
        unfold stepG.exec;dsimp only;rw[if_pos hw];unfold stepG.oper;simp only[Frame.oper?,ho]
       unfold LocalAt at h1 ⊢;simp only[e];exact h1
     ·exact j1l λw=>by
       unfold stepG.exec;dsimp only;rw[if_neg hw]
   | code c=>
    cases c with
    | skip=>exact j1l λ_=>rfl
    | ret=>exact j1l λ_=>rfl
    | seq a b=>exact j1l λ_=>rfl
    | block id b=>exact j1l λ_=>rfl
    | loop b=>exact j1l λ_=>rfl
    | cond c a b=>
     cases hv:Frame.eval { fn,tmps,todo:=.code (.cond c a b)::k,defers,mode:=.run,kind,roundOf:=none } c with
     | bool t=>exact j1l (g1:={ frame:={ fn,tmps,todo:=.code (if t=true then a else b)::k,defers,mode:=.run,kind,roundOf:=none },callers:=cs,status:=.running,dying:=none }) (es:=#[]) λw=>by unfold stepG.exec;simp only[hv]
     | _=>exact j64 λw=>by unfold stepG.exec;simp only[hv];exact⟨_,_,_,rfl⟩
    | exit id=>
     cases he:exitTo id k with
     | none=>exact j64 λw=>by unfold stepG.exec;simp only[he];exact⟨_,_,_,rfl⟩
     | some k'=>exact j1l (g1:={ frame:={ fn,tmps,todo:=k',defers,mode:=.run,kind,roundOf:=none },callers:=cs,status:=.running,dying:=none }) (es:=#[]) λw=>by unfold stepG.exec;simp only[he,Option.elim_some]
    | region id ops draw=>
     cases draw with
     | false=>exact j1l λ_=>rfl
     | true=>
      refine .inl ⟨1,{ frame:={ fn,tmps,todo:=.inRegion ops (Region.schedule (P'.follows .mixedOrders) ops (Question.cut (.order fn id) (τ d (.order fn id))))::k,defers,mode:=.run,kind,roundOf:=none },callers:=cs,status:=.running,dying:=none },w,#[],λτ' d' hs=>?_⟩;have e0:τ' d' (.order fn id)=τ d (.order fn id):=by have:=hs 0 (by omega) (.order fn id);simpa using this
      rw[<- e0];rfl
    | refuse why=>exact .inr ⟨0,λτ' d' _=>⟨_,_,_,rfl⟩⟩
    | rangeFunc f ps a b=>cases hi
    | scope b=>cases hi
    | label l=>cases hi
    | goto l=>cases hi
   | inScope b=>cases hi
   | inRangeFunc l=>cases hi
   | endRangeFunc l=>cases hi
   | beginRound=>cases hi
   | call d wr re sv=>cases hi
   | extern r a=>cases hi
end
end Go.Proofs.Mn
namespace Go.Proofs.Mn
open Go Go.Conc
variable [Atom]
inductive Runs (F:Goroutine->World->GStep)(Fin:Goroutine->World->Prop):Goroutine->World->Prop
 | fin {g:Goroutine} {w:World}:Fin g w->Runs F Fin g w
 | step {g:Goroutine} {w:World} {g1:Goroutine} {w1:World} {es:Array Event}:F g w=.go g1 w1 es->Runs F Fin g1 w1->Runs F Fin g w
inductive Term (F:Goroutine->World->GStep)(Fin:Goroutine->World->Prop):Goroutine->World->Prop
 | fin {g:Goroutine} {w:World}:Fin g w->Term F Fin g w
 | step {g:Goroutine} {w:World} (n:(Nat->Question->Nat)->Nat->Goroutine×World):(∀τ d,∃es,F g (w.on τ d)=.go (n τ d).1 (n τ d).2 es)->(∀τ d,Term F Fin (n τ d).1 (n τ d).2)->Term F Fin g w
section
variable {F:Goroutine->World->GStep}{Fin Inv:Goroutine->World->Prop}{g:Goroutine}{w:World}
theorem jye (w:World)(τ:Nat->Question->Nat)(d:Nat)(τ':Nat->Question->Nat)(d':Nat):(w.on τ d).on τ' d'=w.on τ' d':=rfl
theorem jvm (w:World):w.on w.tape w.drawn=w:=rfl
theorem Term.on (fin:∀g w τ d,Fin g w->Fin g (w.on τ d))(h:Term F Fin g w)(τ:Nat->Question->Nat)(d:Nat):Term F Fin g (w.on τ d):=by
 cases h with
 | fin hf=>exact .fin (fin _ _ _ _ hf)
 | step n h1 h2=>exact .step n h1 h2
theorem jid (fin:∀g w τ d,Fin g w->Fin g (w.on τ d))(inv:∀g w τ d,Inv g w->Inv g (w.on τ d))
  (loc:∀g w,Inv g w->¬Fin g w->∀τ d,LocalAt (F g) w τ d)
  (keep:∀g w,Inv g w->¬Fin g w->∀g1 w1 es,F g w=.go g1 w1 es->Inv g1 w1)
  (h0:Inv g w)(runs:∀τ,Runs F Fin g (w.on τ 0)):Term F Fin g w:=by
 refine Classical.byContradiction λhbad=>?_;let Bad:Goroutine×World->Prop:=λs=>Inv s.1 s.2/\¬Term F Fin s.1 s.2
 have fin':∀g w τ d,Fin g (w.on τ d)->Fin g w:=λg w τ d h=>fin g (w.on τ d) w.tape w.drawn h;have inv':∀g w τ d,Inv g (w.on τ d)->Inv g w:=λg w τ d h=>inv g (w.on τ d) w.tape w.drawn h;have term':∀g w τ d,Term F Fin g (w.on τ d)->Term F Fin g w:=λg w τ d h=>h.on fin w.tape w.drawn;have nxt:∀s:{s // Bad s},∃x:(Nat->Question->Nat)×Nat×Nat×{s // Bad s},∀τ' d',Same x.2.2.1 x.1 x.2.1 τ' d' ->
   (∃es,F s.1.1 (s.1.2.on τ' d')=.go x.2.2.2.1.1 (x.2.2.2.1.2.on τ' (d'+x.2.2.1)) es)\/∃o w2 es,F s.1.1 (s.1.2.on τ' d')=.ended o w2 es:=by
  rintro⟨⟨g,w⟩,hi,hn⟩;have hnf:¬Fin g w:=λh=>hn (.fin h);have hex:∃τ d,∀g1 w1 es,F g (w.on τ d)=.go g1 w1 es->¬Term F Fin g1 w1:=by
   refine Classical.byContradiction λhno=>hn ?_;have:∀x:(Nat->Question->Nat)×Nat,∃y:Goroutine×World,(∃es,F g (w.on x.1 x.2)=.go y.1 y.2 es)/\Term F Fin y.1 y.2:=λx=>by
    refine Classical.byContradiction λhx=>hno ⟨x.1,x.2,λg1 w1 es e ht=>hx ⟨(g1,w1),⟨es,e⟩,ht⟩⟩
   obtain⟨n,hn'⟩:=Classical.axiomOfChoice this;exact .step (λτ d=>n (τ,d)) (λτ d=>(hn' (τ,d)).1) λτ d=>(hn' (τ,d)).2
  obtain⟨τ,d,hτ⟩:=hex;rcases loc g w hi hnf τ d with⟨k,g1,w1,es,hgo⟩|⟨k,hend⟩
  ·have e:=hgo τ d (j50 k τ d);exact⟨⟨τ,d,k,⟨(g1,w1),inv' _ _ _ _ (keep _ _ (inv _ _ τ d hi) (λh=>hnf (fin' _ _ _ _ h)) _ _ _ e),λh=>hτ _ _ _ e (h.on fin _ _)⟩⟩,λτ' d' hs=>.inl ⟨es,hgo τ' d' hs⟩⟩
  ·exact⟨⟨τ,d,k,⟨(g,w),hi,hn⟩⟩,λτ' d' hs=>.inr (hend τ' d' hs)⟩
 obtain⟨N,hN⟩:=Classical.axiomOfChoice nxt;let S:Nat->{s // Bad s}:=λn=>Nat.rec ⟨(g,w),h0,hbad⟩ (λ_ s=>(N s).2.2.2) n
 let D:Nat->Nat:=λn=>Nat.rec 0 (λn D=>D+(N (S n)).2.2.1) n
 have hD:∀n,D (n+1)=D n+(N (S n)).2.2.1:=λ_=>rfl;have hS:∀n,S (n+1)=(N (S n)).2.2.2:=λ_=>rfl;have mono:∀n m,D n<=D (n+m):=λn m=>by
  induction m with
  | zero=>exact Nat.le_refl _
  | succ m ih=>have:=hD (n+m);rw[show n+(m+1)=n+m+1 by omega];omega
 let T:Nat->Question->Nat:=λj q=>open Classical in if h:∃n,D n<=j/\j<D (n+1)then(N (S h.choose)).1 ((N (S h.choose)).2.1+(j-D h.choose)) q else 0
 have hT:∀n,Same (N (S n)).2.2.1 (N (S n)).1 (N (S n)).2.1 T (D n):=λn i hi q=>by
  have hex:∃m,D m<=D n+i/\D n+i<D (m+1):=⟨n,by omega,by rw[hD];omega⟩;have hm:=hex.choose_spec;have e:hex.choose=n:=by
   generalize hex.choose=m at hm;rcases Nat.lt_trichotomy m n with h|h|h
   ·have:=mono (m+1) (n-(m+1));rw[show m+1+(n-(m+1))=n by omega]at this;omega
   ·exact h
   ·have:=mono (n+1) (m-(n+1));rw[show n+1+(m-(n+1))=m by omega,hD]at this;omega
  show(open Classical in if h:∃m,D m<=D n+i/\D n+i<D (m+1)then(N (S h.choose)).1 ((N (S h.choose)).2.1+(D n+i-D h.choose)) q else 0)=_;rw[dif_pos hex,e,show D n+i-D n=i by omega]
 have key:∀g w,Runs F Fin g w->∀n,g=(S n).1.1->w=(S n).1.2.on T (D n)->False:=by
  intro g w h;induction h with
  | fin hf=>rintro n rfl rfl;exact(S n).2.2 (.fin (fin' _ _ _ _ hf))
  | step hF _ ih=>
   rintro n rfl rfl;rcases hN (S n) T (D n) (hT n)with⟨es,e⟩|⟨o,w2,es,e⟩
   ·rw[hF]at e;injection e with e1 e2 e3
    exact ih (n+1) e1 e2
   ·rw[hF]at e;cases e
 exact key _ _ (runs T) 0 rfl rfl
end
end Go.Proofs.Mn
namespace Go.Proofs.Mn
open Go Go.Conc
variable [Atom]
def Leave (g:Goroutine):Prop:=g.callers=[]/\g.frame.mode≠.run/\g.frame.defers=[]
theorem j65 {g:Goroutine}(h:¬Leave g):g.callers=[]->g.frame.mode=.run\/g.frame.defers≠[]:=λhc=>by
 refine Classical.byContradiction λhn=>h ⟨hc,λe=>hn (.inl e),?_⟩;refine Classical.byContradiction λe=>hn (.inr e)
def Und (c0:Frame)(r r':GStep):Prop:=
 (∃(g1:Goroutine)(w1:World)(es:Array Event),r=.go g1 w1 es/\r'=.go (g1.over [c0]) w1 es)\/((∃o w2 es,r=.ended o w2 es)/\∃o w2 es,r'=.ended o w2 es)
section
variable {P' P:Program}{X:Nat->Prop}{pass:FuncId}{fr c0:Frame}{cs:List Frame}{w:World}{g:Goroutine}
theorem jko (hm:c0.mode=.run)(hk:c0.kind=.normal):BaseOk [c0]:=λc cs e=>by cases e;exact⟨hm,hk⟩
theorem j23 {g1:Goroutine}{w1:World}{es:Array Event}:Und c0 (.go g1 w1 es) (.go (g1.over [c0]) w1 es):=.inl ⟨_,_,_,rfl,rfl⟩
theorem j8c (T:Pair P' P X){α:Type}{Q:α->Prop}{s:Sem α}(hs:Cl P' P X Q s s)(hC:CWd X w) :
  (∃(a:α)(w1:World)(es1:Array Event),Q a/\s.runT P' w #[]=(.ok a w1,es1))\/(∃(v:Value)(w1:World)(es1:Array Event),s.runT P' w #[]=(.halt (.panic v) w1,es1))\/(∃(hh:Halt)(w1:World)(es1:Array Event),Dead hh/\s.runT P' w #[]=(.halt hh w1,es1)):=by
 rcases jax T hs hC w.tape w.drawn with⟨k,x,w1,es1,hq,hr⟩|⟨k,v,w1,es1,hr⟩|⟨k,hh,w1,es1,hd,hr⟩
 ·exact .inl ⟨x,_,es1,hq,hr w.tape w.drawn (j50 _ _ _)⟩
 ·exact .inr (.inl ⟨v,_,es1,hr w.tape w.drawn (j50 _ _ _)⟩)
 ·exact .inr (.inr ⟨hh,_,es1,hd,hr w.tape w.drawn (j50 _ _ _)⟩)
theorem jok (T:Twin P' P X pass)(hm:c0.mode=.run)(hk:c0.kind=.normal)(hf:CF P' P X fr){s:Sem Next}(hs:Cl P' P X (CN P' P X pass) s s)(hC:CWd X w) :
  Und c0 (stepG.apply P' true fr cs none s w) (stepG.apply P' true fr (cs++[c0]) none s w):=by
 have hke:(fr.kind==.early)=false:=by
  have:=hf.kind.1;cases hk:fr.kind<;>simp_all<;>decide
 unfold stepG.apply;rcases j8c T.toPair hs hC with⟨x,w1,es1,hq,hr⟩|⟨v,w1,es1,hr⟩|⟨hh,w1,es1,hd,hr⟩
 ·simp only[if_true,hr,hke,Bool.false_eq_true,if_false];cases x with
  | value v=>exact j23
  | skip=>exact j23
  | enter f args=>exact j23
  | defer dd=>exact j23
  | recover=>
   simp only[hf.round,j3c (jko hm hk)];cases tryRecover fr cs with
   | none=>exact j23
   | some r=>exact j23
  | _=>exact hq.elim
 ·simp only[if_true,hr,hke,Bool.false_eq_true,if_false];exact j23
 ·simp only[if_true,hr,hke,Bool.false_eq_true,if_false];rcases hd with⟨u,rfl,hu⟩|⟨s,rfl⟩
  ·cases u with
   | initOrder g=>exact absurd rfl (hu g)
   | _=>exact .inr ⟨⟨_,_,_,rfl⟩,⟨_,_,_,rfl⟩⟩
  ·exact .inr ⟨⟨_,_,_,rfl⟩,⟨_,_,_,rfl⟩⟩
theorem jab (T:Twin P' P X pass)(hm:c0.mode=.run)(hk:c0.kind=.normal){dd:Deferred}(hd:CD X dd)(hC:CWd X w):Und c0 (callDeferred P' fr cs none dd w) (callDeferred P' fr (cs++[c0]) none dd w):=by
 obtain⟨tg,dargs⟩:=dd;have hb:=j8c T.toPair (j5w T.call T.toPair hd) hC;simp only at hb;unfold callDeferred;cases tg<;>cases hmo:fr.mode
 case nil.panicking=>
  rw[if_pos (by simp),if_pos (by simp)];exact .inr ⟨⟨_,_,_,rfl⟩,⟨_,_,_,rfl⟩⟩
 all_goals
  rw[if_neg (by simp),if_neg (by simp)];rcases hb with⟨x,w1,es1,hq,hr⟩|⟨v,w1,es1,hr⟩|⟨hh,w1,es1,hdd,hr⟩
  ·simp only[hr];cases x with
   | value v=>exact j23
   | skip=>exact j23
   | enter f args=>exact j23
   | defer dd=>exact j23
   | recover=>
    simp only[j3c (jko hm hk)];cases tryRecover fr cs<;>exact j23
   | _=>exact hq.elim
  ·simp only[hr];exact j23
  ·simp only[hr];rcases hdd with⟨u,rfl,hu⟩|⟨s,rfl⟩<;>exact .inr ⟨⟨_,_,_,rfl⟩,⟨_,_,_,rfl⟩⟩
theorem jeo (T:Twin P' P X pass)(hm:c0.mode=.run)(hk:c0.kind=.normal)(hf:CF P' P X fr)(hcs:∀c∈cs,CF P' P X c)(hne:fr.defers=[]->cs≠[])(hC:CWd X w):Und c0 (unwind P' true fr cs none w) (unwind P' true fr (cs++[c0]) none w):=by
 obtain⟨fn,hfn⟩:=hf.fn.2;cases hd:fr.defers with
 | nil=>
  obtain⟨c,cs',rfl⟩:∃c cs',cs=c::cs':=by
   cases cs with
   | nil=>exact absurd rfl (hne hd)
   | cons c cs'=>exact⟨c,cs',rfl⟩
  have hc:=hcs c List.mem_cons_self;have hcs':∀x∈cs',CF P' P X x:=λx hx=>hcs x (List.mem_cons_of_mem _ hx);unfold unwind;simp only[hd,List.cons_append];cases hmo:fr.mode with
  | run=>exact .inr ⟨⟨_,_,_,rfl⟩,⟨_,_,_,rfl⟩⟩
  | panicking chain=>
   have hcat:fr.catches P'=false:=by unfold Frame.catches;rw[hf.fn.1,hfn]
   simp only[hcat,Bool.false_eq_true,if_false];exact j23
  | returning=>
   simp only[hf.fn.1,hfn];rcases j8c T.toPair (j42 T.toPair (fn:=fn) hf.tmps) hC with⟨v,w1,es1,hq,hr⟩|⟨v,w1,es1,hr⟩|⟨hh,w1,es1,hdd,hr⟩
   ·simp only[hr];unfold doReturn;cases fr.kind<;>exact j23
   ·simp only[hr];exact .inr ⟨⟨_,_,_,rfl⟩,⟨_,_,_,rfl⟩⟩
   ·simp only[hr];rcases hdd with⟨u,rfl,hu⟩|⟨s,rfl⟩<;>exact .inr ⟨⟨_,_,_,rfl⟩,⟨_,_,_,rfl⟩⟩
 | cons dd ds=>
  have hdd:=hf.defers dd (by rw[hd];exact List.mem_cons_self);have key:∀cs,unwind P' true fr cs none w=callDeferred P' { fr with defers:=ds } cs none dd w:=λcs=>by
   obtain⟨tg,args⟩:=dd;unfold unwind;cases tg with
   | collected r=>exact hdd.target.elim
   | coroexit c=>exact hdd.target.elim
   | _=>simp only[hd]
  rw[key,key];exact jab T hm hk hdd hC
theorem jrg (T:Twin P' P X pass)(hm:c0.mode=.run)(hk:c0.kind=.normal)(hg:CG P' P X g)(hC:CWd X w)(hne:¬Leave g):Und c0 (stepG P' true g w) (stepG P' true (g.over [c0]) w):=by
 replace hne:=j65 hne;obtain⟨⟨fn,tmps,todo,defers,mode,kind,ro⟩,cs,st,dy,off⟩:=g;obtain⟨hf,hcs,hst,hdy,hoff⟩:=hg;simp only at hf hcs hst hdy hoff hne;have hro:=hf.round;simp only at hro;subst hst hdy hoff hro;have dead:∀{r r':GStep},(∃o w2 es,r=.ended o w2 es)->(∃o w2 es,r'=.ended o w2 es)->Und c0 r r':=λa b=>.inr ⟨a,b⟩;cases mode with
 | returning=>exact jeo T hm hk hf hcs (λhd hc=>by rcases hne hc with h1|h1;cases h1;exact h1 hd) hC
 | panicking ch=>exact jeo T hm hk hf hcs (λhd hc=>by rcases hne hc with h1|h1;cases h1;exact h1 hd) hC
 | run=>
  show Und c0 (stepG.exec P' true true { fn,tmps,todo,defers,mode:=.run,kind,roundOf:=none } cs none w) (stepG.exec P' true true { fn,tmps,todo,defers,mode:=.run,kind,roundOf:=none } (cs++[c0]) none w);unfold stepG.exec;cases todo with
  | nil=>exact j23
  | cons i k=>
   have hi:=hf.todo i List.mem_cons_self;cases i with
   | inBlock id=>exact j23
   | inLoop b=>exact j23
   | inRegion ops l=>
    cases l with
    | nil=>exact j23
    | cons i l=>
     dsimp only;split
     ·unfold stepG.oper;cases ho:(ops[i]?)with
      | none=>simp only[Frame.oper?,ho];exact dead ⟨_,_,_,rfl⟩ ⟨_,_,_,rfl⟩
      | some o=>
       simp only[Frame.oper?,ho];have hoo:okOp P.globals.size o.op=true:=List.all_eq_true.1 hi o (by simpa using Array.mem_of_getElem? ho);exact jok T hm hk hf (j7h T.call T.toPair hoo (hf.eval T.toPair)) hC
     ·exact j23
   | code c=>
    cases c with
    | skip=>exact j23
    | ret=>exact j23
    | seq a b=>exact j23
    | block id b=>exact j23
    | loop b=>exact j23
    | cond c a b=>
     dsimp only;split
     ·exact j23
     ·exact dead ⟨_,_,_,rfl⟩ ⟨_,_,_,rfl⟩
    | exit id=>
     dsimp only;cases he:exitTo id k with
     | none=>exact dead ⟨_,_,_,rfl⟩ ⟨_,_,_,rfl⟩
     | some k'=>exact j23
    | region id ops draw=>
     cases draw with
     | false=>exact j23
     | true=>exact j23
    | refuse why=>exact dead ⟨_,_,_,rfl⟩ ⟨_,_,_,rfl⟩
    | rangeFunc f ps a b=>cases hi
    | scope b=>cases hi
    | label l=>cases hi
    | goto l=>cases hi
   | inScope b=>cases hi
   | inRangeFunc l=>cases hi
   | endRangeFunc l=>cases hi
   | beginRound=>cases hi
   | call d wr re sv=>cases hi
   | extern r a=>cases hi
end
end Go.Proofs.Mn
