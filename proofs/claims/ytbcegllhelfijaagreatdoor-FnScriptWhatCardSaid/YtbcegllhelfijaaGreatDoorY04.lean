/-
  A part of the proof.
-/
import Derived.Conc.FxBegin
import Derived.Test.YtbcegllhelfijaaGreatDoorY03
set_option linter.all false
set_option maxRecDepth 100000
set_option maxHeartbeats 8000000
namespace Go.Proofs.Mn
open Go Go.Conc
variable [Atom]
def PassOk (P':Program)(pass:FuncId):Prop:=∃fn c,P'.funcs[pass]?=some fn/\fn.body=some c/\okCode P'.globals.size c=true
def Inv0 (P':Program)(X0:Nat->Prop)(g:Goroutine)(w:World):Prop:=CG P' P' X0 g/\CWd X0 w
open Classical in
noncomputable def stepL (P':Program)(g:Goroutine)(w:World):GStep:=if Leave g then .ended (.stuck "" "") w else stepG P' true g w
def FinL (P':Program)(f:FuncId)(R:Value->World->Prop)(g:Goroutine)(w:World):Prop:=
 g.callers=[]/\g.frame.fn=f/\∀τ d,∃v,g.frame.leaving P' (w.on τ d) (.returned v)/\R v (w.on τ d)
section
variable {P':Program}{X0:Nat->Prop}{pass f:FuncId}{g g1:Goroutine}{w w1:World}{es:Array Event}{R:Value->World->Prop}{fr:Frame}
theorem FinL.leave (h:FinL P' f R g w):Leave g:=by
 obtain⟨h1,_,h2⟩:=h;obtain⟨v,⟨hm,hd,_⟩,_⟩:=h2 w.tape w.drawn;exact⟨h1,by rw[hm];exact λe=>(by cases e),hd⟩
theorem jg8 (hp:PassOk P' pass){X:Nat->Prop}{args:Array Value}{kind:CallKind}(ha:∀v∈args,CV X v)(hk:kind≠.early/\kind≠.report):CF P' P' X (Frame.enter P' pass args kind):=by
 obtain⟨fn,c,hfn,hc,hok⟩:=hp;refine⟨?_,?_,by simp[Frame.enter],by simp[Frame.enter],hk,rfl,rfl,fn,hfn⟩
 ·refine j1z ha ?_;intro v hv;rw[Array.eq_of_mem_replicate hv];exact j3w
 ·intro i hi;simp only[Frame.enter,hfn,Option.bind_some,List.mem_singleton]at hi;subst hi;rw[hc,Option.getD_some];exact hok
theorem jlb (T:Twin P' P' X0 pass)(hp:PassOk P' pass)(h:Inv0 P' X0 g w)(hne:¬Leave g)(hs:stepG P' true g w=.go g1 w1 es):Inv0 P' X0 g1 w1:=by
 have hpf:∀n b,w.heap.size<=b->b<n->¬X0 b:=λn b h1 _ hx=>by have:=h.2.dom b hx;omega
 letI:Stays:=Stays.none
 obtain⟨w1',es',_,hC0,hsz,_,h1⟩:=jcs (base:=[]) (λ_ _ e=>by cases e) T (by rw[jx3 h.2.dom];exact T) h.1 (Agree.same X0 w) h.2.toCW (hpf _) (j65 hne) hs;have hC:=h.2.grow hC0 hsz;rcases h1 with⟨_,a,b,c,d,e⟩|⟨args,kind,fr,cs,k1,k2,ha,hfr,hcs,rfl,_⟩
 ·exact⟨⟨a,b,c,d,e⟩,hC⟩
 ·exact⟨⟨jg8 hp ha ⟨k1,k2⟩,λx hx=>(List.mem_cons.1 hx).elim (λe=>e▸hfr) (hcs x),rfl,rfl,rfl⟩,hC⟩
theorem jkp {P:Program}{X:Nat->Prop}(h:CG P' P X g):g=G g.frame g.callers:=by
 obtain⟨fr,cs,st,dy,off⟩:=g;obtain⟨_,_,h1,h2,h3⟩:=h;simp only at h1 h2 h3;subst h1 h2 h3;rfl
def net (f:FuncId):Frame:={ fn:=f,tmps:=#[],todo:=[.code (.refuse "")],defers:=[⟨.nil,#[]⟩],mode:=.run,kind:=.normal,roundOf:=none }
theorem jqr (P':Program)(f:FuncId)(w:World):∃o w2,step P' (lone (net f) [] w)=.ended o w2:=⟨_,_,step_lone_ended rfl⟩
theorem je9 (P':Program)(f:FuncId)(chain:List PanicEntry)(w:World):∃o w2,step P' (lone ((net f).raise chain) [] w)=.ended o w2:=⟨_,_,step_lone_ended rfl⟩
theorem jqa (T:Twin P' P' X0 pass)(h:Inv0 P' X0 g w)(hl:Leave g) :
  (∃fr1 w1,step P' (lone g.frame (g.callers++[net f]) w)=.next (lone fr1 [] w1)/\∃o w2,step P' (lone fr1 [] w1)=.ended o w2)\/∃o w2,step P' (lone g.frame (g.callers++[net f]) w)=.ended o w2:=by
 obtain⟨⟨fn,tmps,todo,defers,mode,kind,ro⟩,cs,st,dy,off⟩:=g;obtain⟨hc,hm,hd⟩:=hl;obtain⟨⟨hf,_,_,_,_⟩,hC⟩:=h;simp only at hc hm hd hf ⊢;have hro:=hf.round;simp only at hro;subst hc hd hro;obtain⟨fnn,hfn⟩:=hf.fn.2;simp only at hfn;have e:∀w,(stepG P' true { frame:={ fn,tmps,todo,defers:=[],mode,kind,roundOf:=none },callers:=[net f],status:=.running,dying:=none } w)=unwind P' true { fn,tmps,todo,defers:=[],mode,kind,roundOf:=none } [net f] none w:=λw=>by
  cases mode with
  | run=>exact absurd rfl hm
  | _=>rfl
 cases mode with
 | run=>exact absurd rfl hm
 | panicking chain=>
  refine .inl ⟨(net f).raise chain,w,step_lone_go ?_,je9 P' f chain w⟩;have:({ fn,tmps,todo,defers:=[],mode:=.panicking chain,kind,roundOf:=none }:Frame).catches P'=false:=by unfold Frame.catches;simp only[hfn]
  rw[show(([]:List Frame)++[net f])=[net f]from rfl,e];unfold unwind;simp only[this,Bool.false_eq_true,if_false,GStep.bare_go]
 | returning=>
  rw[show(([]:List Frame)++[net f])=[net f]from rfl];rcases j8c T.toPair (j42 T.toPair (fn:=fnn) hf.tmps) hC with⟨v,w1,es1,hq,hr⟩|⟨v,w1,es1,hr⟩|⟨hh,w1,es1,hdd,hr⟩
  ·refine .inl ⟨net f,w1,step_lone_go ?_,jqr P' f w1⟩;rw[e];unfold unwind;simp only[hfn,hr];have hk:=hf.kind;simp only at hk;unfold doReturn;cases kind<;>first|exact absurd rfl hk.1|rfl
  ·refine .inr ⟨_,_,step_lone_ended (o:=.stuck "return: the result variables cannot be read" (Frame.pos P' { fn,tmps,todo,defers:=[],mode:=.returning,kind,roundOf:=none })) (w':=w1) ?_⟩;rw[e];unfold unwind;simp only[hfn,hr];rfl
  ·rcases hdd with⟨u,rfl,hu⟩|⟨s,rfl⟩
   ·refine .inr ⟨_,_,step_lone_ended (o:=.stuck "return: the result variables cannot be read" (Frame.pos P' { fn,tmps,todo,defers:=[],mode:=.returning,kind,roundOf:=none })) (w':=w1) ?_⟩;rw[e];unfold unwind;simp only[hfn,hr];rfl
   ·refine .inr ⟨_,_,step_lone_ended (o:=.stuck s (Frame.pos P' { fn,tmps,todo,defers:=[],mode:=.returning,kind,roundOf:=none })) (w':=w1) ?_⟩;rw[e];unfold unwind;simp only[hfn,hr];rfl
theorem jas {fr fr':Frame}{cs cs':List Frame}{w w':World}(h:lone fr cs w=lone fr' cs' w'):fr=fr'/\cs=cs'/\w=w':=by
 simp only[lone,Machine.mk.injEq]at h;obtain⟨h1,h2,_⟩:=h;have:(#[({ frame:=fr,callers:=cs,status:=.running,dying:=none }:Goroutine)]:Array Goroutine)[0]?=#[({ frame:=fr',callers:=cs',status:=.running,dying:=none }:Goroutine)][0]?:=by rw[h2]
 simp at this;exact⟨this.1,this.2,h1⟩
theorem jnd (T:Twin P' P' X0 pass){fr:Frame}{w:World}{v:Value}(hf:∀x∈fr.tmps,CV X0 x)(hC:CWd X0 w)(h:fr.leaving P' w (.returned v))(τ:Nat->Question->Nat)(d:Nat):fr.leaving P' (w.on τ d) (.returned v):=by
 obtain⟨h1,h2,h3,fn,h4,h5⟩:=h;refine⟨h1,h2,h3,fn,h4,?_⟩;obtain⟨k,r,es1,hr⟩:=ji2 T.tables (j42 T.toPair (fn:=fn) hf) w #[] w.tape w.drawn hC;have h0:=hr w.tape w.drawn (j50 _ _ _);have hk:=hr τ d;rw[jvm]at h0;have e0:(results fn fr.tmps).run P' w=Result.on r w.tape (w.drawn+k):=by rw[<- Sem.runT_fst,h0]
 rw[h5]at e0;cases r with
 | halt hh w1=>cases e0
 | ok a w1=>
  simp only[Result.on,Result.ok.injEq]at e0;obtain⟨rfl,e1⟩:=e0;have hk0:k=0:=by
   have:w.drawn=(w1.on w.tape (w.drawn+k)).drawn:=by rw[<- e1]
   have:w.drawn=w.drawn+k:=this;omega
  subst hk0;rw[<- Sem.runT_fst P' _ (w.on τ d) #[],hk λi hi=>by omega];simp only[Result.on,Result.ok.injEq,true_and];have:w.on τ d=(w1.on w.tape (w.drawn+0)).on τ d:=by rw[<- e1]
  rw[this,jye];rfl
theorem ji3 (T:Twin P' P' X0 pass)(hp:PassOk P' pass)(hR:∀v w τ d,R v w->R v (World.on w τ d)){fr2:Frame}{w2:World}{v:Value}(hfn:fr2.fn=f)(hlv:fr2.leaving P' w2 (.returned v))(hv:R v w2) :
  ∀(n:Nat) (g:Goroutine) (w:World),Inv0 P' X0 g w->runN P' n (lone g.frame (g.callers++[net f]) w)=.next (lone fr2 [net f] w2)->Runs (stepL P') (FinL P' f R) g w:=by
 intro n;induction n with
 | zero=>
  intro g w hI h;have e:=jkp hI.1;simp only[runN,Stepped.next.injEq]at h;obtain⟨h1,h2,rfl⟩:=jas h;have h3:g.callers=[]:=by simpa using h2
  refine .fin ⟨h3,by rw[h1];exact hfn,λτ d=>⟨v,?_,hR _ _ _ _ hv⟩⟩;exact jnd T hI.1.frame.tmps hI.2 (by rw[h1];exact hlv) τ d
 | succ n ih=>
  intro g w hI h;have e:=jkp hI.1;simp only[runN]at h;by_cases hl:Leave g
  ·exfalso;rcases jqa (f:=f) T hI hl with⟨fr1,w1,hs,o,w3,hs2⟩|⟨o,w3,hs⟩
   ·rw[hs]at h;simp only at h;cases n with
    | zero=>
     simp only[runN,Stepped.next.injEq]at h;have:=(jas h).2.1;cases this
    | succ n=>simp only[runN,hs2]at h;cases h
   ·rw[hs]at h;cases h
  ·have hu:=jrg (c0:=net f) T rfl rfl hI.1 hI.2 hl;have eo:g.over [net f]={ frame:=g.frame,callers:=g.callers++[net f],status:=.running,dying:=none }:=by
    rw[e];rfl
   rw[eo]at hu;rcases hu with⟨g1,w1,es,h1,h2⟩|⟨_,o,w3,es,h2⟩
   ·have hI1:=jlb T hp hI hl h1;have e1:=jkp hI1.1;have hs:step P' (lone g.frame (g.callers++[net f]) w)=.next (lone g1.frame (g1.callers++[net f]) w1):=step_lone_go (by
     rw[h2,e1];rfl)
    rw[hs]at h;exact .step (es:=es) (by unfold stepL;rw[if_neg hl];exact h1) (ih g1 w1 hI1 h)
   ·have hs:step P' (lone g.frame (g.callers++[net f]) w)=.ended o w3:=step_lone_ended (by rw[h2];rfl);rw[hs]at h;cases h
theorem jfy (T:Twin P' P' X0 pass)(hp:PassOk P' pass)(hR:∀v w τ d,R v w->R v (World.on w τ d)){args:Array Value}{w:World}(hI:Inv0 P' X0 (G (Frame.enter P' f args .normal) []) w)
  (h:∀τ,Calls P' f args (w.on τ 0) fun|.returned v,w'=>R v w'|_,_=>False):Term (stepL P') (FinL P' f R) (G (Frame.enter P' f args .normal) []) w:=by
 refine jid (Inv:=Inv0 P' X0) ?_ ?_ ?_ ?_ hI ?_
 ·rintro g w τ d ⟨h1,h2,h3⟩;exact⟨h1,h2,λτ' d'=>h3 τ' d'⟩
 ·rintro g w τ d ⟨h1,h2⟩;exact⟨h1,⟨h2.obj⟩,h2.dom⟩
 ·intro g w hI _ τ d;by_cases hl:Leave g
  ·exact j64 λw=>⟨_,_,_,by unfold stepL;rw[if_pos hl]⟩
  ·have:=jk9 (τ:=τ) (d:=d) T hI.1 hI.2 (j65 hl);unfold LocalAt at this ⊢;unfold stepL;simp only[if_neg hl];exact this
 ·intro g w hI _ g1 w1 es hs;by_cases hl:Leave g
  ·unfold stepL at hs;rw[if_pos hl]at hs;cases hs
  ·unfold stepL at hs;rw[if_neg hl]at hs;exact jlb T hp hI hl hs
 ·intro τ;obtain⟨e,w2,fr2,hR2,hc,hfn,hlv⟩:=h τ [net f];cases e with
  | panicked chain=>exact hR2.elim
  | outgrown=>exact hR2.elim
  | returned v=>
   obtain⟨n,hn⟩:=hc;exact ji3 T hp hR hfn hlv hR2 n (G (Frame.enter P' f args .normal) []) (w.on τ 0) ⟨hI.1,⟨hI.2.obj⟩,hI.2.dom⟩ hn
end
end Go.Proofs.Mn
namespace Go.Proofs.Mn
open Go Go.Conc
open Go.ConcN (sumTo upd sumTo_upd upd_ne upd_same)
open Go.ConcR (deafBehind_cons deafBehind_one)
variable [Atom]
section
variable {P:Program}{Shun:Loc->Prop}{B:Nat}
theorem jdq {g:Goroutine}{w:World}(hrun:g.status=.running)(hgo:∀d,∃g1 w1 es B',stepG P true g (w.at d)=.go g1 w1 es/\B<=B'/\∀e∈es,EvL Shun B' e) :
  ∀(M:Nat) (gs:Array Goroutine) (d0:Nat) (sl:Option (Nat×Nat)) (t:Trace) (q:Nat->Nat),sumTo gs.size q<=M->gs[0]?=some g->Leavers P t gs q->Past Shun B t ->
   ∃(N:Nat) (gs1:Array Goroutine) (g1:Goroutine) (w1:World) (es:Array Event) (d:Nat) (sl1:Option (Nat×Nat)) (t1:Trace) (q1:Nat->Nat),
    runNT P N (crowd gs (w.at d0) sl) t=(.next (crowd gs1 w1 sl1),t1)/\stepG P true g (w.at d)=.go g1 w1 es/\gs1.size=gs.size/\gs1[0]?=some g1/\Leavers P t1 gs1 q1/\∀B',B<=B'->(∀e∈es,EvL Shun B' e)->Past Shun B' t1:=by
 intro M;induction M with
 | zero=>
  intro gs d0 sl t q hM h0 hL hP;have haw:∀g∈gs,awake g:=by
   intro x hg;obtain⟨i,hi,rfl⟩:=Array.mem_iff_getElem.1 hg;rcases Nat.eq_zero_or_pos i with rfl|hpos
   ·have:gs[0]=g:=by simpa[Array.getElem?_eq_getElem hi]using h0
    rw[this];exact awake_of (.inl hrun)
   ·exact awake_of ((hL.old i _ hpos (Array.getElem?_eq_getElem hi)).status.elim .inl λx=>.inr (.inr x))
  obtain⟨i,x,d,sl',hi,hg,hst⟩:=crowd_pick (P:=P) (w:=w.at d0) (sl:=sl) haw ⟨0,g,h0,hrun⟩;rcases Nat.eq_zero_or_pos i with rfl|hpos
  ·obtain rfl:x=g:=by rw[h0]at hi;exact(Option.some.inj hi).symm
   obtain⟨g1,w1,es,B',hgo,hB',hev⟩:=hgo d;have hrunT:=runT_crowd_go (P:=P) (sl:=sl') (i:=0) hi (show stepG P (0==0) x ((w.at d0).at d)=_ from hgo);have hlt:0<gs.size:=(Array.getElem?_eq_some_iff.1 h0).1;refine⟨1,(gs.map (woken P x g1 w1)).setIfInBounds 0 g1,g1,w1,es,d,sl',t++MemOp.ofEvents 0 x.frame.fn x.frame.place es,q,by simp only[runNT,hst,hrunT],hgo,by simp,by simp[hlt],⟨λj y hj hx=>?_,λj hj=>?_⟩,λB2 h2 hev2=>(hP.mono h2).own hev2⟩
   ·have hne:0≠j:=by omega
    rw[Array.getElem?_setIfInBounds_ne hne,Array.getElem?_map]at hx;obtain⟨y,hy,rfl⟩:=Option.map_eq_some_iff.1 hx;have hq:=hL.old j y hj hy;rw[woken_quitsD hq,Deaf_other t (by omega) _ (λop hop=>by obtain⟨e,_,rfl⟩:=Go.Conc.mem_ofEvents hop;rfl)];exact hq
   ·rw[Deaf_other t (g':=0) (by simp at hj;omega) _ (λop hop=>by obtain⟨e,_,rfl⟩:=Go.Conc.mem_ofEvents hop;rfl)];exact hL.above j (by simpa using hj)
  ·have hq:=hL.old i x hpos hi;have hlt:i<gs.size:=(Array.getElem?_eq_some_iff.1 hi).1;have hqi:q i=0:=by
    have h2:sumTo gs.size (upd q i 0)+q i=sumTo gs.size q+0:=sumTo_upd q 0 id hlt;omega
   rw[hqi]at hq;rw[hq.1]at hg;cases hg
 | succ M ih=>
  intro gs d0 sl t q hM h0 hL hP;have haw:∀g∈gs,awake g:=by
   intro x hg;obtain⟨i,hi,rfl⟩:=Array.mem_iff_getElem.1 hg;rcases Nat.eq_zero_or_pos i with rfl|hpos
   ·have:gs[0]=g:=by simpa[Array.getElem?_eq_getElem hi]using h0
    rw[this];exact awake_of (.inl hrun)
   ·exact awake_of ((hL.old i _ hpos (Array.getElem?_eq_getElem hi)).status.elim .inl λx=>.inr (.inr x))
  obtain⟨i,x,d,sl',hi,hg,hst⟩:=crowd_pick (P:=P) (w:=w.at d0) (sl:=sl) haw ⟨0,g,h0,hrun⟩;rcases Nat.eq_zero_or_pos i with rfl|hpos
  ·obtain rfl:x=g:=by rw[h0]at hi;exact(Option.some.inj hi).symm
   obtain⟨g1,w1,es,B',hgo,hB',hev⟩:=hgo d;have hrunT:=runT_crowd_go (P:=P) (sl:=sl') (i:=0) hi (show stepG P (0==0) x ((w.at d0).at d)=_ from hgo);have hlt:0<gs.size:=(Array.getElem?_eq_some_iff.1 h0).1;refine⟨1,(gs.map (woken P x g1 w1)).setIfInBounds 0 g1,g1,w1,es,d,sl',t++MemOp.ofEvents 0 x.frame.fn x.frame.place es,q,by simp only[runNT,hst,hrunT],hgo,by simp,by simp[hlt],⟨λj y hj hx=>?_,λj hj=>?_⟩,λB2 h2 hev2=>(hP.mono h2).own hev2⟩
   ·have hne:0≠j:=by omega
    rw[Array.getElem?_setIfInBounds_ne hne,Array.getElem?_map]at hx;obtain⟨y,hy,rfl⟩:=Option.map_eq_some_iff.1 hx;have hq:=hL.old j y hj hy;rw[woken_quitsD hq,Deaf_other t (by omega) _ (λop hop=>by obtain⟨e,_,rfl⟩:=Go.Conc.mem_ofEvents hop;rfl)];exact hq
   ·rw[Deaf_other t (g':=0) (by simp at hj;omega) _ (λop hop=>by obtain⟨e,_,rfl⟩:=Go.Conc.mem_ofEvents hop;rfl)];exact hL.above j (by simpa using hj)
  ·have hq:=hL.old i x hpos hi;have hi0:(i==0)=false:=by simp;omega
   have hlt:i<gs.size:=(Array.getElem?_eq_some_iff.1 hi).1;cases hqi:q i with
   | zero=>rw[hqi]at hq;rw[hq.1]at hg;cases hg
   | succ k=>
    rw[hqi]at hq;rcases hq with⟨hf,_⟩|⟨_,g',es,hm,hstp,hq'⟩
    ·rw[hf]at hg;cases hg
    have hrunT:=runT_crowd_go (P:=P) (sl:=sl') (i:=i) hi (by rw[hi0];exact hstp ((w.at d0).at d));have hsz:((gs.map (woken P x g' ((w.at d0).at d))).setIfInBounds i g').size=gs.size:=by simp
    have hsum:sumTo gs.size (upd q i k)+(k+1)=sumTo gs.size q+k:=by
     have:=sumTo_upd q k id hlt;simpa[hqi]using this
    obtain⟨N,gs1,g1,w1,es1,d1,sl1,t1,q1,hr,h1,h2,h3,h4,h5⟩:=ih ((gs.map (woken P x g' ((w.at d0).at d))).setIfInBounds i g') d sl' (t++MemOp.ofEvents i x.frame.fn x.frame.place es) (upd q i k) (by rw[hsz];omega)
     (by
      have hne:i≠0:=by omega
      rw[Array.getElem?_setIfInBounds_ne hne,Array.getElem?_map,h0];simp[woken_run hrun])
     ⟨λj y hj hx=>by
      by_cases hji:i=j
      ·subst hji;rw[Array.getElem?_setIfInBounds_self_of_lt (by simpa using hlt)]at hx;obtain rfl:=Option.some.inj hx;rw[upd_same,Deaf_own];exact hq'
      ·rw[Array.getElem?_setIfInBounds_ne hji,Array.getElem?_map]at hx;obtain⟨y,hy,rfl⟩:=Option.map_eq_some_iff.1 hx;have hqj:=hL.old j y hj hy;rw[woken_quitsD hqj,upd_ne q k (Ne.symm hji),Deaf_other t hji _ (λop hop=>by obtain⟨e,_,rfl⟩:=Go.Conc.mem_ofEvents hop;rfl)];exact hqj,λj hj=>by
      rw[Deaf_other t (g':=i) (by simp at hj;omega) _ (λop hop=>by obtain⟨e,_,rfl⟩:=Go.Conc.mem_ofEvents hop;rfl)];exact hL.above j (by simpa using hj)⟩
     (hP.mute (by omega) hm)
    exact⟨N+1,gs1,g1,w1,es1,d1,sl1,t1,q1,by simp only[runNT,hst,hrunT];exact hr,h1,h2.trans hsz,h3,h4,h5⟩
end
def shutL (S:Nat->Prop)(l:Loc):Prop:=∃a,l=.cell a/\S a.block
theorem j43 {X S:Nat->Prop}(hS:∀b,S b->X b){w:World}{e:Event}(h:EvC X w e){B:Nat}(hB:w.heap.size<=B):EvL (shutL S) B e:=by
 obtain⟨loc,wr,sy⟩:=e;have noX:∀(l:Loc),(∀a,l=.cell a->¬X a.block)->∀x:Touch,x.loc=l->shutL S x.loc->False:=by
  rintro l hl x rfl ⟨a,h1,h2⟩;exact hl a h1 (hS _ h2)
 rcases h with⟨a,h1,h2,h3⟩|⟨r,h1,h2,h3,h4⟩|h1|h1|⟨f,h1⟩<;>simp only at h1<;>subst h1
 ·refine⟨λx hx hs=>?_,by simp,by simp,by simp[MemAct.ofEvent,MemAct.low,Loc.low];omega⟩;simp[MemAct.ofEvent,MemAct.touch?]at hx;subst hx;exact(noX _ (λb hb=>by cases hb;exact h2) _ rfl hs).elim
 ·have h4':¬(wr=true/\sy=true):=λe=>by have:=h4 e.1;simp only at this;rw[e.2]at this;cases this
  have he:MemAct.ofEvent ⟨.obj r,wr,sy⟩=.access ⟨.obj r,wr,sy⟩:=by
   cases wr<;>cases sy<;>first|rfl|exact absurd ⟨rfl,rfl⟩ h4'
  refine⟨λx hx hs=>?_,by simp,by simp,by rw[he];simp[MemAct.low,Loc.low];omega⟩;rw[he]at hx;simp[MemAct.touch?]at hx;subst hx;exact(noX _ (λb hb=>by cases hb) _ rfl hs).elim
 ·refine⟨λx hx hs=>?_,by simp,by simp,by simp[MemAct.ofEvent,MemAct.low,Loc.low]⟩;simp[MemAct.ofEvent,MemAct.touch?]at hx;subst hx;exact(noX _ (λb hb=>by cases hb) _ rfl hs).elim
 ·exact⟨λx hx hs=>by simp[MemAct.ofEvent,MemAct.touch?]at hx,by simp,by simp,by simp[MemAct.ofEvent,MemAct.low]⟩
 ·exact⟨λx hx hs=>by simp[MemAct.ofEvent,MemAct.touch?]at hx,by simp,by simp,by simp[MemAct.ofEvent,MemAct.low]⟩
end Go.Proofs.Mn
namespace Go.Proofs.Mn
open Go Go.Conc
variable [Atom]
def NextL (P':Program)(s1 s:Goroutine×World):Prop:=∃τ d es,stepL P' s.1 (s.2.on τ d)=.go s1.1 s1.2 es
inductive StarL (P':Program):Goroutine×World->Goroutine×World->Prop
 | refl {s:Goroutine×World}:StarL P' s s
 | step {s s1 s2:Goroutine×World}:NextL P' s1 s->StarL P' s2 s1->StarL P' s2 s
section
variable {P' P:Program}{base:List Frame}{f pass:FuncId}{R:Value->World->Prop}{s s1 s2:Goroutine×World}
theorem StarL.trans (h:StarL P' s1 s)(k:StarL P' s2 s1):StarL P' s2 s:=by
 induction h with
 | refl=>exact k
 | step hn _ ih=>exact .step hn (ih k)
theorem FinL.noNext (h:FinL P' f R s.1 s.2):¬NextL P' s1 s:=by
 rintro⟨τ,d,es,e⟩;unfold stepL at e;rw[if_pos h.leave]at e;cases e
theorem Term.next (h:Term (stepL P') (FinL P' f R) s.1 s.2)(hn:NextL P' s1 s):Term (stepL P') (FinL P' f R) s1.1 s1.2:=by
 obtain⟨g,w⟩:=s;cases h with
 | fin hf=>exact absurd hn hf.noNext
 | step n h1 h2=>
  obtain⟨τ,d,es,e⟩:=hn;obtain⟨es',e'⟩:=h1 τ d;rw[e']at e;injection e with e1 e2
  rw[<- e1,<- e2];exact h2 τ d
theorem Term.star (h:Term (stepL P') (FinL P' f R) s.1 s.2)(hs:StarL P' s1 s):Term (stepL P') (FinL P' f R) s1.1 s1.2:=by
 induction hs with
 | refl=>exact h
 | step hn _ ih=>exact ih (h.next hn)
theorem Term.goes (h:Term (stepL P') (FinL P' f R) s.1 s.2)(hf:¬FinL P' f R s.1 s.2):¬Leave s.1/\∀τ d,∃g1 w1 es,stepG P' true s.1 (s.2.on τ d)=.go g1 w1 es/\NextL P' (g1,w1) s:=by
 obtain⟨g,w⟩:=s;cases h with
 | fin hf'=>exact absurd hf' hf
 | step n h1 _=>
  have hl:¬Leave g:=λhl=>by
   obtain⟨es,e⟩:=h1 w.tape w.drawn;unfold stepL at e;rw[if_pos hl]at e;cases e
  refine⟨hl,λτ d=>?_⟩;obtain⟨es,e⟩:=h1 τ d;have e':=e;unfold stepL at e;rw[if_neg hl]at e;exact⟨_,_,es,e,τ,d,es,e'⟩
theorem Term.acc (h:Term (stepL P') (FinL P' f R) s.1 s.2):Acc (NextL P') s:=by
 obtain⟨g,w⟩:=s;simp only at h;induction h with
 | fin hf=>exact⟨_,λy hy=>absurd hy (FinL.noNext (s:=(_,_)) hf)⟩
 | step n h1 _ ih=>
  refine⟨_,λy hy=>?_⟩;obtain⟨τ,d,es,e⟩:=hy;obtain⟨es',e'⟩:=h1 τ d;rw[e']at e;injection e with e1 e2
  have:=ih τ d;rw[e1,e2]at this;exact this
structure Rel [Stays](P:Program)(base:List Frame)(X S:Nat->Prop)(gc:Goroutine)(w w':World)(gs:Array Goroutine)(t:Trace)(q:Nat->Nat):Prop where
 agree:Agree X (w.on w'.tape w'.drawn) w'
 clean:CW X w
 future:∀b,w.heap.size<=b->X b
 high:∀b,X b->P.globals.size+1<=b
 sub:∀b,S b->X b
 old:∀b,S b->b<w.heap.size
 at0:gs[0]?=some (gc.over base)
 leavers:Leavers P t gs q
 past:Past (shutL S) w'.heap.size t
def Comes2 [Stays](P' P:Program)(base:List Frame)(X:Nat->Prop)(w:World)(gs:Array Goroutine)(w':World)(sl:Option (Nat×Nat))(t:Trace)(Q:Goroutine×World->Prop):Prop:=
 ∃(N:Nat) (X1 S1:Nat->Prop) (gs1:Array Goroutine) (s2:Goroutine×World) (w1':World) (sl1:Option (Nat×Nat)) (t1:Trace) (q1:Nat->Nat),
  runNT P N (crowd gs w' sl) t=(.next (crowd gs1 w1' sl1),t1)/\Q s2/\CG P' P X1 s2.1/\Rel P base X1 S1 s2.1 s2.2 w1' gs1 t1 q1/\(∀b,X1 b->X b)/\(∀b,X b->b<w.heap.size->X1 b)/\w.heap.size<=s2.2.heap.size
def Phase [Stays](P' P:Program)(base:List Frame)(pass f:FuncId)(R:Value->World->Prop):Prop:=
 ∀(X S:Nat->Prop) (args:Array Value) (kind:CallKind) (fr:Frame) (cs:List Frame) (w w':World) (gs:Array Goroutine) (sl:Option (Nat×Nat)) (t:Trace) (q:Nat->Nat),
  kind≠.early->kind≠.report->(∀v∈args,CV X v)->CF P' P X fr->(∀c∈cs,CF P' P X c) ->
  Rel P base X S { frame:=Frame.enter P pass args kind,callers:=fr::cs,status:=.running,dying:=none } w w' gs t q ->
  Term (stepL P') (FinL P' f R) { frame:=Frame.enter P' pass args kind,callers:=fr::cs,status:=.running,dying:=none } w ->
  Comes2 P' P base X w gs w' sl t λs'=>StarL P' s' ({ frame:=Frame.enter P' pass args kind,callers:=fr::cs,status:=.running,dying:=none },w)
theorem bridge [Stays](T:∀X:Nat->Prop,(∀b,X b->P.globals.size+1<=b)->Twin P' P X pass)(hbase:BaseOk base)(hph:Phase P' P base pass f R)(hacc:Acc (NextL P') s) :
  ∀s',StarL P' s' s->Term (stepL P') (FinL P' f R) s'.1 s'.2->∀(X S:Nat->Prop) (gs:Array Goroutine) (w':World) (sl:Option (Nat×Nat)) (t:Trace) (q:Nat->Nat),
   CG P' P X s'.1->Rel P base X S s'.1 s'.2 w' gs t q->Comes2 P' P base X s'.2 gs w' sl t λs2=>FinL P' f R s2.1 s2.2:=by
 induction hacc with
 | intro s _ ih=>
  intro s' hs' hT X S gs w' sl t q hg hR;cases hs' with
  | step hn hs'=>exact ih _ hn s' hs' hT X S gs w' sl t q hg hR
  | refl=>
   by_cases hf:FinL P' f R s.1 s.2
   ·exact⟨0,X,S,gs,s,w',sl,t,q,rfl,hf,hg,hR,λ_ h=>h,λ_ h _=>h,Nat.le_refl _⟩
   ·obtain⟨hl,hgo⟩:=hT.goes hf;obtain⟨g,w⟩:=s;simp only at hg hR hgo hl;have one:∀d,∃g1 w1,NextL P' (g1,w1) (g,w)/\w.heap.size<=w1.heap.size/\Goes1 P' P (j9a X w.heap.size w1.heap.size) pass base w.heap.size g1 w1 (stepG P true (g.over base) (w'.at d)):=λd=>by
     obtain⟨g1,w1,es,e,hn⟩:=hgo w'.tape d;have hA:Agree X (w.on w'.tape d) (w'.at d):=⟨rfl,rfl,hR.agree.os,hR.agree.output,hR.agree.size,hR.agree.block,hR.agree.keep⟩;have high1:∀b,j9a X w.heap.size w1.heap.size b->P.globals.size+1<=b:=λb hb=>hR.high b hb.1;have hC1:CW X (w.on w'.tape d):=⟨hR.clean.obj⟩;have hgoes:=jcs (w:=w.on w'.tape d) hbase (T _ high1) (T _ λb hb=>high1 b hb.1) (hg.mono jli) (hA.openA w1.heap.size) (hC1.openW w1.heap.size) (λb h1 h2 hx=>hx.2.elim (λh=>by have:w.heap.size<=b:=h1;omega) (λh=>by omega)) (j65 hl) e;obtain⟨_,_,_,_,hs0,_⟩:=id hgoes;exact⟨g1,w1,hn,hs0,hgoes⟩
    have hsz:w'.heap.size=w.heap.size:=hR.agree.size;obtain⟨N,gs1,gc,wc,es,d,sl1,t1,q1,hr,hst,hs1,h0,hL1,hP1⟩:=jdq (P:=P) (Shun:=shutL S) (B:=w'.heap.size) (g:=g.over base) (w:=w') hg.status (λd=>by
     obtain⟨g1,w1,hn,hsz1,w1',es',hA,hC,hs0,hev,hcase⟩:=one d;have hev':∀e∈es',EvL (shutL S) w1.heap.size e:=λe he=>j43 (λb hb=>⟨hR.sub b hb,.inl (hR.old b hb)⟩) (hev e he) (Nat.le_refl _);rcases hcase with⟨e,_⟩|⟨args,kind,fr,cs,_,_,_,_,_,_,e⟩
     ·exact⟨_,_,es',w1.heap.size,e,by omega,hev'⟩
     ·exact⟨_,_,es',w1.heap.size,e,by omega,hev'⟩) (Go.ConcN.sumTo gs.size q) gs w'.drawn sl t q (Nat.le_refl _) hR.at0 hR.leavers hR.past
    obtain⟨g1,w1,hn,hsz1,w1',es',hA,hC,hs0,hev,hcase⟩:=one d;have hev':∀e∈es',EvL (shutL S) w1.heap.size e:=λe he=>j43 (λb hb=>⟨hR.sub b hb,.inl (hR.old b hb)⟩) (hev e he) (Nat.le_refl _);have hs1':w1'.heap.size=w1.heap.size:=hA.size;have hA':Agree (j9a X w.heap.size w1.heap.size) (w1.on w1'.tape w1'.drawn) w1':=⟨rfl,rfl,hA.os,hA.output,hA.size,hA.block,hA.keep⟩;have hfut:∀b,w1.heap.size<=b->j9a X w.heap.size w1.heap.size b:=λb hb=>⟨hR.future b (by omega),.inr hb⟩;have hsub:∀b,S b->j9a X w.heap.size w1.heap.size b:=λb hb=>⟨hR.sub b hb,.inl (hR.old b hb)⟩;have hold:∀b,S b->b<w1.heap.size:=λb hb=>by have:=hR.old b hb;omega
    have keep:∀b,X b->b<w.heap.size->j9a X w.heap.size w1.heap.size b:=λb hb h=>⟨hb,.inl h⟩;rcases hcase with⟨e,a1,a2,a3,a4,a5⟩|⟨args,kind,fr,cs,k1,k2,ha,hfr,hcs,eg,e⟩
    ·rw[hst]at e;injection e with e1 e2 e3
     subst e1 e2 e3;have hR1:Rel P base (j9a X w.heap.size w1.heap.size) S g1 w1 wc gs1 t1 q1:=⟨hA',hC,hfut,λb hb=>hR.high b hb.1,hsub,hold,h0,hL1,by rw[hs1'];exact hP1 _ (by omega) hev'⟩;obtain⟨N2,X2,S2,gs2,s2,w2',sl2,t2,q2,hr2,b1,b2,b3,b4,b5,b6⟩:=ih _ hn (g1,w1) .refl (hT.next hn) (j9a X w.heap.size w1.heap.size) S gs1 wc sl1 t1 q1 ⟨a1,a2,a3,a4,a5⟩ hR1;exact⟨N+N2,X2,S2,gs2,s2,w2',sl2,t2,q2,Go.ConcX.runNT_trans hr hr2,b1,b2,b3,λb hb=>(b4 b hb).1,λb hb hlt=>b5 b (keep b hb hlt) (by simp only at hlt ⊢;omega),by simp only at b6 ⊢;omega⟩
    ·rw[hst]at e;injection e with e1 e2 e3
     subst e1 e2 e3;have hR1:Rel P base (j9a X w.heap.size w1.heap.size) S { frame:=Frame.enter P pass args kind,callers:=fr::cs,status:=.running,dying:=none } w1 wc gs1 t1 q1:=⟨hA',hC,hfut,λb hb=>hR.high b hb.1,hsub,hold,h0,hL1,by rw[hs1'];exact hP1 _ (by omega) hev'⟩;have hT1:=hT.next hn;simp only at hT1;rw[eg]at hT1;obtain⟨N2,X2,S2,gs2,s2,w2',sl2,t2,q2,hr2,b1,b2,b3,b4,b5,b6⟩:=hph (j9a X w.heap.size w1.heap.size) S args kind fr cs w1 wc gs1 sl1 t1 q1 k1 k2 ha hfr hcs hR1 hT1;rw[<- eg]at b1;obtain⟨N3,X3,S3,gs3,s3,w3',sl3,t3,q3,hr3,c1,c2,c3,c4,c5,c6⟩:=ih _ hn s2 b1 ((hT.next hn).star b1) X2 S2 gs2 w2' sl2 t2 q2 b2 b3;exact⟨N+(N2+N3),X3,S3,gs3,s3,w3',sl3,t3,q3,Go.ConcX.runNT_trans hr (Go.ConcX.runNT_trans hr2 hr3),c1,c2,c3,λb hb=>(b4 b (c4 b hb)).1,λb hb hlt=>c5 b (b5 b (keep b hb hlt) (by simp only at hlt ⊢;omega)) (by simp only at hlt b6 ⊢;omega),by simp only at b6 c6 ⊢;omega⟩
end
end Go.Proofs.Mn
namespace Go.Proofs.Mn
open Go Go.Conc
variable [Atom]
section
variable {P' P:Program}{X0 S:Nat->Prop}{f pass:FuncId}{R:Value->World->Prop}{law:Frame}{gs:Array Goroutine}{w':World}{sl:Option (Nat×Nat)}{t:Trace}{q:Nat->Nat}{args:Array Value}
theorem jj9 {fn:FuncId}{es:Array Event}{X:Nat->Prop}{w1:World}(h:∀e∈es,EvC X w1 e):∀e∈seen P fn es++#[],EvC X w1 e:=λe he=>h e (mem_seen (by simpa using he))
def fut (X:Nat->Prop)(w:World)(b:Nat):Prop:=X b\/w.heap.size<=b
theorem jg6 [Stays](T:∀X:Nat->Prop,(∀b,X b->P.globals.size+1<=b)->Twin P' P X pass)(T0:Twin P' P' X0 pass)(hp:PassOk P' pass)(hph:Phase P' P [law] pass f R)
  (hne:f≠pass)(hfe:P'.funcs[f]?=P.funcs[f]?){fn:Func}(hfn:P.funcs[f]?=some fn)(hbody:fn.body.isSome=true)(hlaw:law.mode=.run/\law.kind=.normal)
  (hdom:∀b,X0 b->b<w'.heap.size)(hkeep:∀b,Stays.K b->X0 b/\(Stays.o b).isSome=true/\w'.heap[b]?=Stays.o b)(hC:CW (fut X0 w') w')(high:∀b,fut X0 w' b->P.globals.size+1<=b)(ha:∀v∈args,CV (fut X0 w') v)(hS:∀b,S b->X0 b)
  (h0:gs[0]?=some (G (Frame.enter P f args .normal) [law]))(hL:Leavers P t gs q)(hP:Past (shutL S) w'.heap.size t)
  (hR:∀v w τ d,R v w->R v (World.on w τ d))(h:∀τ,Calls P' f args (w'.on τ 0) fun|.returned v,w=>R v w|_,_=>False) :
  ∃(N:Nat) (X1 S1:Nat->Prop) (gs1:Array Goroutine) (v:Value) (w1 w1':World) (sl1:Option (Nat×Nat)) (t1:Trace) (q1:Nat->Nat),
   runNT P N (crowd gs w' sl) t=(.next (crowd gs1 w1' sl1),t1)/\gs1[0]?=some (G (law.finish v) [])/\R v w1/\Agree X1 (w1.on w1'.tape w1'.drawn) w1'/\CW X1 w1/\CV X1 v/\(∀b,S1 b->X1 b/\b<w1.heap.size)/\(∀b,w1.heap.size<=b->X1 b) /\
   Leavers P t1 gs1 q1/\Past (shutL S1) w1'.heap.size t1/\(∀b,X1 b->X0 b\/w'.heap.size<=b)/\(∀b,X0 b->X1 b)/\w'.heap.size<=w1.heap.size:=by
 have hbase:BaseOk [law]:=λc cs e=>by cases e;exact hlaw
 have sub0:∀b,X0 b->fut X0 w' b:=λb hb=>.inl hb;have TX:=T (fut X0 w') high;have henter:=CF.enter TX (args:=args) (kind:=.normal) ha ⟨by simp,by simp⟩ hne hfe hfn hbody;have hCF0:CF P' P' X0 (Frame.enter P' f args .normal):=by
  refine(CF.enter T0 (args:=args) (kind:=.normal) (λv hv=>(ha v hv).mono sub0) ⟨by simp,by simp⟩ hne rfl (fn:=fn) (by rw[hfe];exact hfn) hbody).2
 have hC0:CWd X0 w':=⟨⟨λb o ho hb=>(hC.obj b o ho λhx=>hx.elim hb λhge=>by have:=(Array.getElem?_eq_some_iff.1 ho).1;omega).mono sub0⟩,hdom⟩;have hI:Inv0 P' X0 (G (Frame.enter P' f args .normal) []) w':=⟨⟨hCF0,by simp[G],rfl,rfl,rfl⟩,hC0⟩;have hT:=jfy T0 hp hR hI h;have hg:CG P' P (fut X0 w') (G (Frame.enter P' f args .normal) []):=⟨by show CF P' P (fut X0 w') (Frame.enter P' f args .normal);rw[henter.1];exact henter.2,by simp[G],rfl,rfl,rfl⟩;have hRel:Rel P [law] (fut X0 w') S (G (Frame.enter P' f args .normal) []) w' w' gs t q:=
  ⟨Agree.refl _ w' (λb hb=>⟨.inl (hkeep b hb).1,(hkeep b hb).2⟩),hC,λb hb=>.inr hb,high,λb hb=>.inl (hS b hb),λb hb=>hdom b (hS b hb),by rw[h0,henter.1];rfl,hL,hP⟩
 obtain⟨N,X1,S1,gs1,⟨g2,w1⟩,w1',sl1,t1,q1,hr,hF,hg2,hR2,x1,x2,x3⟩:=bridge (s:=(G (Frame.enter P' f args .normal) [],w')) T hbase hph (Term.acc (s:=(_,_)) hT) _ .refl hT (fut X0 w') S gs w' sl t q hg hRel;simp only at hF hg2 hR2 x2 x3;obtain⟨hcal,hffn,hfin⟩:=hF;have hgeta:=jkp hg2;have hfnP':P'.funcs[f]?=some fn:=by rw[hfe];exact hfn
 have one:∀d,∃v w2' es,stepG P true (g2.over [law]) (w1'.at d)=.go (G (law.finish v) []) w2' es/\R v w1/\CV X1 v/\Agree X1 (w1.on w2'.tape w2'.drawn) w2'/\∀e∈es,EvL (shutL S1) w1'.heap.size e:=λd=>by
  obtain⟨v,⟨hm,hd,hk,fn',hfn',hres⟩,hRv⟩:=hfin w1'.tape d;obtain rfl:fn'=fn:=by rw[hffn,hfnP']at hfn';exact(Option.some.inj hfn').symm
  have hA:Agree X1 (w1.on w1'.tape d) (w1'.at d):=⟨rfl,rfl,hR2.agree.os,hR2.agree.output,hR2.agree.size,hR2.agree.block,hR2.agree.keep⟩;have TX1:=T X1 hR2.high;have hra:=j3q TX1.tables (j42 TX1.toPair (fn:=fn') hg2.frame.tmps) (w1.on w1'.tape d) (w1'.at d) #[] hA ⟨hR2.clean.obj⟩;have hfst:((results fn' g2.frame.tmps).runT P' (w1.on w1'.tape d) #[]).1=.ok v (w1.on w1'.tape d):=by rw[Sem.runT_fst];exact hres
  generalize(results fn' g2.frame.tmps).runT P' (w1.on w1'.tape d) #[]=r at hra hfst;obtain⟨r,es1⟩:=r;simp only at hfst;subst hfst;generalize hrP:(results fn' g2.frame.tmps).runT P (w1'.at d) #[]=rP at hra;obtain⟨w2',new,rfl,hes,hcv,hA2,hC2,hsz,hev⟩:=hra λb h1 h2=>by omega
  have hs2:w1'.heap.size=(w1.on w1'.tape d).heap.size:=hA.size;refine⟨v,w2',seen P g2.frame.fn es1++#[],?_,?_,hcv,⟨rfl,rfl,hA2.os,hA2.output,hA2.size,hA2.block,hA2.keep⟩,λe he=>?_⟩
  ·rw[hgeta,hcal];obtain⟨⟨gfn,tmps,todo,defers,mode,kind,ro⟩,cs,st,dy,off⟩:=g2;simp only at hm hd hk hffn hrP ⊢;subst hm hd hk hffn;show unwind P true { fn:=gfn,tmps,todo,defers:=[],mode:=.returning,kind:=.normal,roundOf:=ro } [law] none (w1'.at d)=_;unfold unwind;simp only[hfn,hrP];rfl
  ·have:=hR v _ w1.tape w1.drawn hRv;exact this
  ·refine j43 hR2.sub (jj9 (λe he=>?_) e he) (Nat.le_of_eq hs2.symm);rw[hes]at he;exact hev e (by simpa using he)
 obtain⟨N2,gs2,gc,wc,es,d,sl2,t2,q2,hr2,hst,hs2,h02,hL2,hP2⟩:=jdq (P:=P) (Shun:=shutL S1) (B:=w1'.heap.size) (g:=g2.over [law]) (w:=w1') hg2.status (λd=>by
  obtain⟨v,w2',es,e,_,_,_,hev⟩:=one d;exact⟨_,_,es,w1'.heap.size,e,Nat.le_refl _,hev⟩) _ gs1 w1'.drawn sl1 t1 q1 (Nat.le_refl _) hR2.at0 hR2.leavers hR2.past
 obtain⟨v,w2',es',e,hRv,hcv,hA2,hev⟩:=one d;rw[hst]at e;injection e with e1 e2 e3
 subst e1 e2 e3;have hsz2:wc.heap.size=w1'.heap.size:=by rw[hA2.size];exact hR2.agree.size.symm
 exact⟨N+N2,X1,S1,gs2,v,w1,wc,sl2,t2,q2,Go.ConcX.runNT_trans hr hr2,h02,hRv,hA2,hR2.clean,hcv,λb hb=>⟨hR2.sub b hb,hR2.old b hb⟩,hR2.future,hL2,by rw[hsz2];exact hP2 _ (Nat.le_refl _) hev,λb hb=>x1 b hb,λb hb=>x2 b (.inl hb) (hdom b hb),x3⟩
end
end Go.Proofs.Mn
namespace Go.Proofs.Mn
open Go Go.Conc
section
variable {P' P:Program}(hT:P'.toTables=P.toTables)
include hT
theorem j2o (t:TypeId):P'.underlying t=P.underlying t:=by
 have:Atom:=⟨0,.nilIface⟩;exact congrFun (j1d hT) t
theorem j7b (t:TypeId):P'.info? t=P.info? t:=by
 have:Atom:=⟨0,.nilIface⟩;exact congrFun (ji9 hT) t
theorem ju9:P'.depth=P.depth:=by
 have:Atom:=⟨0,.nilIface⟩;exact j2w hT
theorem jdo (t:TypeId):P'.stoodInHeld t=P.stoodInHeld t:=by
 have:Atom:=⟨0,.nilIface⟩;exact congrFun (j3a hT) t
theorem jdn (d:Nat)(t:TypeId):P'.eqGuardType d t=P.eqGuardType d t:=by
 have:Atom:=⟨0,.nilIface⟩;exact congrFun (congrFun (j8m hT) d) t
theorem j52 (t:TypeId)(w:World):(underlying t).run P' w=(underlying t).run P w:=by
 have e:∀P:Program,(underlying t).run P w=(match P.underlying t with|some d=>(pure d:Sem TypeDesc)|none=>stuck "no such type").run P w:=λ_=>rfl;rw[e,e,j2o hT];cases P.underlying t<;>rfl
theorem jcw (t:TypeId)(w:World):(typeInfo t).run P' w=(typeInfo t).run P w:=by
 have e:∀P:Program,(typeInfo t).run P w=(match P.info? t with|some d=>(pure d:Sem TypeInfo)|none=>stuck "no such type").run P w:=λ_=>rfl;rw[e,e,j7b hT];cases P.info? t<;>rfl
theorem jlt {α:Type}{t:TypeId}{w:World}{f:TypeInfo->Sem α}(hf:∀i w,(f i).run P' w=(f i).run P w):(typeInfo t >>= f).run P' w=(typeInfo t >>= f).run P w:=by
 rw[Sem.run_bind,Sem.run_bind,jcw hT];generalize(typeInfo t).run P w=r;cases r with
 | ok i w'=>simp only[Result.andThen_ok];exact hf i w'
 | halt h w'=>simp only[Result.andThen]
theorem j8q (t:TypeId)(w:World):(sizeOf t).run P' w=(sizeOf t).run P w:=jlt hT λ_ _=>rfl
theorem jam (t:TypeId)(w:World):(zeroValue t).run P' w=(zeroValue t).run P w:=jlt hT λi w=>by cases i.zero<;>rfl
theorem jig (t:TypeId)(w:World):(isAgg t).run P' w=(isAgg t).run P w:=by
 unfold isAgg;rw[Sem.run_bind,Sem.run_bind,j52 hT];generalize(underlying t).run P w=r;cases r with
 | ok i w'=>simp only[Result.andThen_ok];cases i<;>rfl
 | halt h w'=>simp only[Result.andThen]
end
theorem jjp {G F:Array Func}{one:Nat->Func->Func}(h:F=G.mapIdx one)(i:Nat):F[i]?=(G[i]?).map (one i):=by rw[h,Array.getElem?_mapIdx]
theorem jc {P:Program}{i:Nat}{f:Func}(h:P.funcs[i]?=some f)(h1:(f.name == "runtime.NumGoroutine")=false)(h2:f.body.isNone=false)(args:Array Value)(w:World):(callFunc i args).run P w=.ok (.enter i args) w:=by
 have:(callFunc i args).run P w=(match P.funcs[i]? with
  | none=>(stuck "call: no such function":Sem Next)
  | some fn=>if fn.name == "runtime.NumGoroutine" then pure .numGoroutine
   else if fn.body.isNone then(do
    mark (.extern i)
    if let some e:=Extern.findNext fn then return<-e args
    match Extern.find fn with
    | some e=>pure (.value (<- e args))
    | none=>
     if fn.name.endsWith ".init"&&!fn.name.startsWith "("&&!fn.name.startsWith "gosem." then pure (.value (.tuple #[]))
     else unsupported (.extern fn.name))
   else pure (.enter i args)).run P w:=rfl
 rw[this,h];simp only[h1,h2,Bool.false_eq_true,if_false];rfl
end Go.Proofs.Mn
