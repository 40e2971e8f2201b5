/-
  A part of the proof.
-/
import Derived.Test.YtbcegllhelfijaaGreatDoorY08
set_option linter.all false
set_option maxRecDepth 100000
set_option maxHeartbeats 8000000
namespace Go.Proofs.Mn
open Go Go.Conc
open Go.ConcN (WSit RW WgLive DWs AtR0 WD CTag Vc cnt upd Ssum Fsum phi isOpen isW3 isFin RelBy sumTo)
open Go.ConcR (KK wgBlock WgAt stA smA rd wr mk Payload DC0 Bk g_of_ofEvents)
variable [Payload]
section
variable {P:Program}{ty:TypeId}{N B:Nat}{w0:World}{Fin:World->Prop}{v vs vr:Value}{AnchW Out:Goroutine->World->Prop}{Shun:Loc->Prop}{n0 T0:Nat}
 {tag tag':MTag}{f f' d0:Nat}{p p':PTag}{q:Nat->Nat}{gs gs':Array Goroutine}{w w':World}{t u:Trace}{st sm st' sm':Int}{a a' g g' child:Goroutine}{es:Array Event}{sl:Option (Nat×Nat)}{i k:Nat}{fn:FuncId}{pos:String}
theorem jns (h:∀e∈es,EvM N B e):∀op∈MemOp.ofEvents 0 fn pos es,OkP0 (stA (N+7)) (shG N) B op:=by
 intro op hop;obtain⟨e,he,rfl⟩:=Go.Conc.mem_ofEvents hop;obtain⟨h1,_,_,h4,h5⟩:=h e he;exact⟨rfl,h1,h4,λe'=>h5 _ (Go.ConcR.loc_of_ofEvent e')⟩
theorem jqt (hB:N+8<=B)(h:∀e∈es,Bk (N+7) e):∀op∈MemOp.ofEvents 0 fn pos es,OkP0 (stA (N+7)) (shG N) B op:=by
 intro op hop;obtain⟨e,he,rfl⟩:=Go.Conc.mem_ofEvents hop;have h1:=jug (h e he) (B:=B) (by omega);exact⟨rfl,λx hx=>⟨(jer (h e he) hx).1,by rw[(jer (h e he) hx).2];simp⟩,h1.1,h1.2 _⟩
theorem Acq2.own (hp:0<n0)(h:Acq2 N n0 T0 t):Acq2 N n0 T0 (t++MemOp.ofEvents 0 fn pos es):=
 h.app λk r hk hr=>hr.appOther g_of_ofEvents (by omega)
theorem Co.idleM (hS:∀l,Shun l->∃a,l=.cell a/\a.block<N)(hF:∀w w',RR ty N w w'->Fin w->Fin w')(h:(Co P ty N B w0 Fin v vs vr AnchW Out Shun n0 T0) tag f d0 p q gs w t st sm)(ha:gs[0]?=some a)
  (hgo:stepG P true a w=.go a' w' es)(hD:DM N B w w' es)(hs':(MSit P ty N B AnchW Out (Born1 P ty N B w0 v vs) (Born2 P ty N B w0 Fin v vr)) tag f' d0 a' w')(hf:f'<f):(Moves P ty N B w0 Fin v vs vr AnchW Out Shun n0 T0) (tag.rank (Vc 2 p.d)+p.rank,f+2*(p.fuel+sumTo n0 q)) gs w sl t 0:=by
 obtain⟨rfl,hev⟩:=hD;have hdf:deafBehind d0 es=d0:=deafBehind_still (λe he=>⟨(hev e he).2.1,(hev e he).2.2.1⟩) d0;obtain⟨gs',hr,hco⟩:=h.stepM (sl:=sl) (tag':=tag) (f':=f') hS hF ha hgo (.refl _ _) h.wg (jns hev) (by rw[hdf];exact hs') h.fit h.mode (λe=>(h.acq e).own h.pos);exact⟨_,_,_,hr,Prod.Lex.right _ (by omega),gs',_,sl,tag,f',_,p,q,st,sm,rfl,hco,rfl⟩
theorem Co.bookM (hB:N+8<=B)(hS:∀l,Shun l->∃a,l=.cell a/\a.block<N)(hF:∀w w',RR ty N w w'->Fin w->Fin w')(h:(Co P ty N B w0 Fin v vs vr AnchW Out Shun n0 T0) tag f d0 p q gs w t st sm)(ha:gs[0]?=some a)
  (hgo:stepG P true a w=.go a' w' es)(hA:Aside (N+7) w w')(hwg:WgAt ty (N+7) w' st' sm')(hbk:∀e∈es,Bk (N+7) e)(hs':(MSit P ty N B AnchW Out (Born1 P ty N B w0 v vs) (Born2 P ty N B w0 Fin v vr)) tag' f' (deafBehind d0 es) a' w')(hfit:fits tag' p)
  (hmode:(tag'=.kd0\/tag'=.a0->st'=0/\sm'=0)/\(tag'≠.kd0->tag'≠.a0->Go.ConcN.Mode 2 p.d tag'.c st' sm'))(hne:tag'≠.out)
  (hlt:tag'.rank (Vc 2 p.d)<tag.rank (Vc 2 p.d)\/(tag'.rank (Vc 2 p.d)=tag.rank (Vc 2 p.d)/\f'<f)):(Moves P ty N B w0 Fin v vs vr AnchW Out Shun n0 T0) (tag.rank (Vc 2 p.d)+p.rank,f+2*(p.fuel+sumTo n0 q)) gs w sl t 0:=by
 obtain⟨gs',hr,hco⟩:=h.stepM (sl:=sl) (tag':=tag') (f':=f') hS hF ha hgo hA hwg (jqt hB hbk) hs' hfit hmode (λe=>absurd e hne);refine⟨_,_,_,hr,?_,gs',_,sl,tag',f',_,p,q,st',sm',rfl,hco,rfl⟩;rcases hlt with h|⟨h1,h2⟩
 ·exact Prod.Lex.left _ _ (by omega)
 ·rw[h1];exact Prod.Lex.right _ (by omega)
theorem j37 {tag':MTag}{st' sm':Int}{D:Nat->WD}(h1:tag'≠.kd0)(h2:tag'≠.a0)(hm:Go.ConcN.Mode 2 D tag'.c st' sm') :
  (tag'=.kd0\/tag'=.a0->st'=0/\sm'=0)/\(tag'≠.kd0->tag'≠.a0->Go.ConcN.Mode 2 D tag'.c st' sm'):=
 ⟨λe=>e.elim (λe=>absurd e h1) (λe=>absurd e h2),λ_ _=>hm⟩
theorem jnp {a b c:Nat×Nat}(h:Lt2 a b)(h':Lt2 b c):Lt2 a c:=Go.ConcN.lt2_trans h h'
theorem Co.w1Step (hB:N+8<=B)(hS:∀l,Shun l->∃a,l=.cell a/\a.block<N)(hF:∀w w',RR ty N w w'->Fin w->Fin w')(h:(Co P ty N B w0 Fin v vs vr AnchW Out Shun n0 T0) .w1 f 1 p q gs w t st sm)(ha:gs[0]?=some a)
  (hG:Goes P true (RM ty N) (DM N B) (MW1 P ty N B AnchW Out) f a w):(Moves P ty N B w0 Fin v vs vr AnchW Out Shun n0 T0) (MTag.w1.rank (Vc 2 p.d)+p.rank,f+2*(p.fuel+sumTo n0 q)) gs w sl t 0:=by
 have hfit:p.kids=2:=h.fit;have hm:=h.mode.2 (by simp) (by simp);rcases Goes.cases hG with hstop|⟨m',rfl,hstep⟩
 ·obtain⟨_,hall⟩:=hstop w (RM.refl' w);obtain⟨ho,hst,hsm,_⟩:=hm.open_inv trivial;have hV:=Go.ConcN.Vc_le 2 p.d;have hwg:=h.wg;rw[hst,hsm]at hwg;obtain⟨a',hgo,h0,hne⟩:=hall (Vc 2 p.d) (by omega) (by simpa[Go.ConcN.pend,MTag.c]using hwg);by_cases hv:Vc 2 p.d=0
  ·obtain⟨mz,hk⟩:=h0 hv;have e:((Vc 2 p.d+Go.ConcN.pend MTag.w1.c:Nat):Int)*KK=0:=by rw[hv];simp[Go.ConcN.pend,MTag.c]
   rw[e]at hwg;exact h.bookM (tag':=.ke) hB hS hF ha hgo (.refl _ w) hwg Go.ConcN.bk_rd (.ke hk) hfit (j37 (by simp) (by simp) (.fin trivial (Go.ConcN.allQuit_of ho hv))) (by simp) (.inl (by simp only[MTag.rank];omega))
  ·obtain⟨mz,hk⟩:=hne hv;exact h.bookM (tag':=.w2 (Vc 2 p.d)) hB hS hF ha hgo (.refl _ w) h.wg Go.ConcN.bk_rd (.w2 hk) hfit (j37 (by simp) (by simp) (hm.reopen trivial trivial rfl (λvs e=>by cases e;omega))) (by simp) (.inl (by simp only[MTag.rank];omega))
 ·obtain⟨a',w',es,hgo,hD,hg'⟩:=hstep w (RM.refl' w);exact h.idleM hS hF ha hgo hD (.w1 hg') (by omega)
theorem Co.stepMain (hB:N+8<=B)(hS:∀l,Shun l->∃a,l=.cell a/\a.block<N)(hF:∀w w',RR ty N w w'->Fin w->Fin w')(hAn:∀g w,AnchW g w->∃m,Goes P true (RM ty N) (DM N B) (MW1 P ty N B AnchW Out) m g w)
  (h:(Co P ty N B w0 Fin v vs vr AnchW Out Shun n0 T0) tag f d0 p q gs w t st sm)(ha:gs[0]?=some a)(hrun:a.status=.running)(hno:¬(tag=.out/\∀wz,RM ty N w wz->Out a wz)):(Moves P ty N B w0 Fin v vs vr AnchW Out Shun n0 T0) (tag.rank (Vc 2 p.d)+p.rank,f+2*(p.fuel+sumTo n0 q)) gs w sl t 0:=by
 have hVj:=Go.ConcN.Vc_le 2 p.d;obtain⟨aq,haq,hs⟩:=h.m0;rw[ha]at haq;cases haq;have hfit:=h.fit;have hmode:=h.mode;cases hs with
 | kd0 hG=>
  rcases Goes.cases hG with hstop|⟨m',rfl,hstep⟩
  ·obtain⟨_,a',hgo,mz,hk⟩:=hstop w (RM.refl' w);exact h.bookM (tag':=.a0) hB hS hF ha hgo (.refl _ w) h.wg Go.ConcN.bk_dis (.a0 hk) hfit ⟨λ_=>h.mode.1 (.inl rfl),λ_ e=>absurd rfl e⟩ (by simp) (.inl (by simp[MTag.rank]))
  ·obtain⟨a',w',es,hgo,hD,hg'⟩:=hstep w (RM.refl' w);exact h.idleM hS hF ha hgo hD (.kd0 hg') (by omega)
 | a0 hG=>
  rcases Goes.cases hG with hstop|⟨m',rfl,hstep⟩
  ·obtain⟨_,hx⟩:=hstop w (RM.refl' w);obtain⟨e1,e2⟩:=h.mode.1 (.inr rfl);obtain⟨a',hgo,mz,hk⟩:=hx (by have:=h.wg;rwa[e1,e2]at this);have hp:p=.none:=hfit;refine h.bookM (tag':=.ke0) (st':=2*KK) (sm':=0) hB hS hF ha hgo (aside_setCell w (stA (N+7)) _) (by have:=h.wg.setSt (2*KK);rwa[e2]at this) Go.ConcN.bk_rw (.ke0 hk) hfit (j37 (by simp) (by simp) ?_) (by simp) (.inl (by simp[MTag.rank]));subst hp;have e:(2*KK:Int)=((Vc 2 PTag.none.d+Go.ConcN.pend MTag.ke0.c:Nat):Int)*KK:=rfl;rw[e];exact .opn trivial (λi _=>.inl rfl) (by simp[MTag.c])
  ·obtain⟨a',w',es,hgo,hD,hg'⟩:=hstep w (RM.refl' w);exact h.idleM hS hF ha hgo hD (.a0 hg') (by omega)
 | ke0 hG=>
  rcases Goes.cases hG with hstop|⟨m',rfl,hstep⟩
  ·obtain⟨_,a',hgo,mz,hk⟩:=hstop w (RM.refl' w);exact h.bookM (tag':=.go1) hB hS hF ha hgo (.refl _ w) h.wg Go.ConcN.bk_en (.go1 hk) hfit (j37 (by simp) (by simp) (h.mode.2 (by simp) (by simp))) (by simp) (.inl (by simp[MTag.rank]))
  ·obtain⟨a',w',es,hgo,hD,hg'⟩:=hstep w (RM.refl' w);exact h.idleM hS hF ha hgo hD (.ke0 hg') (by omega)
 | go1 hG=>
  rcases Goes.cases hG with hstop|⟨m',rfl,hstep⟩
  ·obtain⟨_,a',child,hsp,hb,mz,hk⟩:=hstop w (RM.refl' w);have hp:p=.none:=hfit;subst hp;have hpr:=h.pr;have hkp:Kp ty N w0 w:=by
    generalize gs[n0]?=x at hpr;generalize gs[n0+1]?=y at hpr;cases hpr with
    | none hk=>exact hk
   obtain⟨mv,hb⟩:=hb hkp;have hs0:=h.size;simp only[PTag.kids,Nat.add_zero]at hs0;obtain⟨gs',ops,hr,hco⟩:=h.spawn (sl:=sl) (p':=.sa mv) (tag':=.go2) hS ha hsp rfl (by funext j;simp[PTag.started,PTag.kids]) (by funext i;rcases i with _|_|i<;>rfl) rfl ⟨rfl,rfl,rfl,rfl⟩ ⟨rfl,rfl⟩ (.go2 hk) rfl ⟨rfl,rfl⟩ (by simp)
    (by
     simp only[PTag.kids,↓reduceIte,Nat.zero_ne_one];rw[Array.getElem?_eq_none (by omega)];exact .sa hkp hb) (.inl rfl)
   refine⟨_,_,_,hr,?_,gs',w,sl,.go2,mz,0,.sa mv,q,st,sm,rfl,hco,rfl⟩;exact Prod.Lex.left _ _ (by simp[MTag.rank,PTag.rank])
  ·obtain⟨a',w',es,hgo,hD,hg'⟩:=hstep w (RM.refl' w);exact h.idleM hS hF ha hgo hD (.go1 hg') (by omega)
 | go2 hG=>
  rcases Goes.cases hG with hstop|⟨m',rfl,hstep⟩
  ·obtain⟨_,a',child,hsp,hb,mz,hk⟩:=hstop w (RM.refl' w);have hkid:p.kids=1:=hfit;have hs0:=h.size;have hpr:=h.pr;have hn1:gs[n0+1]?=none:=by rw[Array.getElem?_eq_none (by omega)]
   rw[hn1]at hpr;generalize hx:gs[n0]?=x at hpr;cases hpr with
   | none _=>cases hkid
   | sa hkp hG1=>
    rename_i ms g1
    obtain⟨mv,hb⟩:=hb hkp;obtain⟨gs',ops,hr,hco⟩:=h.spawn (sl:=sl) (p':=.ca ms mv) (tag':=.kd) hS ha hsp rfl (by funext j;simp[PTag.started,PTag.kids]) (by funext i;rcases i with _|_|i<;>rfl) rfl ⟨rfl,rfl,rfl,rfl⟩ ⟨rfl,rfl⟩ (.kd hk) rfl ⟨rfl,rfl⟩ (by simp)
     (by
      simp only[PTag.kids,↓reduceIte,Nat.one_ne_zero,hx];exact .ca hG1 hb) (.inr rfl)
    refine⟨_,_,_,hr,?_,gs',w,sl,.kd,mz,0,.ca ms mv,q,st,sm,rfl,hco,rfl⟩;exact Prod.Lex.left _ _ (by simp[MTag.rank,PTag.rank])
   | sb hkp hG1=>
    rename_i ms g1 z
    obtain⟨mv,hb⟩:=hb hkp;obtain⟨gs',ops,hr,hco⟩:=h.spawn (sl:=sl) (p':=.cb mv) (tag':=.kd) hS ha hsp rfl (by funext j;simp[PTag.started,PTag.kids]) (by funext i;rcases i with _|_|i<;>rfl) rfl ⟨rfl,rfl,rfl,rfl⟩ ⟨rfl,rfl⟩ (.kd hk) rfl ⟨rfl,rfl⟩ (by simp)
     (by
      simp only[PTag.kids,↓reduceIte,Nat.one_ne_zero,hx];exact .cb (z:=z) hG1 hb) (.inr rfl)
    refine⟨_,_,_,hr,?_,gs',w,sl,.kd,mz,0,.cb mv,q,st,sm,rfl,hco,rfl⟩;exact Prod.Lex.left _ _ (by simp[MTag.rank,PTag.rank])
  ·obtain⟨a',w',es,hgo,hD,hg'⟩:=hstep w (RM.refl' w);exact h.idleM hS hF ha hgo hD (.go2 hg') (by omega)
 | kd hG=>
  have hm:=hmode.2 (by simp) (by simp);rcases Goes.cases hG with hstop|⟨m',rfl,hstep⟩
  ·obtain⟨_,a',hgo,mz,hk⟩:=hstop w (RM.refl' w);exact h.bookM (tag':=.anch) hB hS hF ha hgo (.refl _ w) h.wg Go.ConcN.bk_dis (.anch hk) hfit (j37 (by simp) (by simp) (hm.reopen trivial trivial rfl (by simp[MTag.c]))) (by simp) (.inl (by simp only[MTag.rank];omega))
  ·obtain⟨a',w',es,hgo,hD,hg'⟩:=hstep w (RM.refl' w);exact h.idleM hS hF ha hgo hD (.kd hg') (by omega)
 | anch hG=>
  have hm:=hmode.2 (by simp) (by simp);rcases Goes.cases hG with hstop|⟨m',rfl,hstep⟩
  ·obtain⟨mz,hk⟩:=hAn a w (hstop w (RM.refl' w));have h1:(Co P ty N B w0 Fin v vs vr AnchW Out Shun n0 T0) .w1 mz 1 p q gs w t st sm:={ h with fit:=hfit,m0:=⟨a,ha,.w1 hk⟩,mode:=j37 (by simp) (by simp) (hm.reopen trivial trivial rfl (by simp[MTag.c])),acq:=λe=>by cases e };obtain⟨mq,ops,μ',r1,r2,r3⟩:=h1.w1Step (sl:=sl) hB hS hF ha hk;exact⟨mq,ops,μ',r1,jnp r2 (Prod.Lex.left _ _ (by simp only[MTag.rank];omega)),r3⟩
  ·obtain⟨a',w',es,hgo,hD,hg'⟩:=hstep w (RM.refl' w);exact h.idleM hS hF ha hgo hD (.anch hg') (by omega)
 | w1 hG=>exact h.w1Step hB hS hF ha hG
 | w2 hG=>
  rename_i vs'
  have hm:=hmode.2 (by simp) (by simp);rcases Goes.cases hG with hstop|⟨m',rfl,hstep⟩
  ·obtain⟨_,hall⟩:=hstop w (RM.refl' w);obtain⟨ho,hst,hsm,hw2⟩:=hm.open_inv trivial;obtain⟨hle,h1⟩:=hw2 vs' rfl;have hwg:=h.wg;rw[hst,hsm]at hwg;obtain⟨hhit,hmiss⟩:=hall (Vc 2 p.d) (by omega) (by simpa[Go.ConcN.pend,MTag.c]using hwg);by_cases e:Vc 2 p.d=vs'
   ·obtain⟨a',hgo,mz,hk⟩:=hhit e;refine h.bookM (tag':=.w3) (sm':=0) hB hS hF ha hgo (aside_setCell w (stA (N+7)) _) (hwg.setSt _) Go.ConcN.bk_rw (.w3 hk) hfit (j37 (by simp) (by simp) (.reg trivial ho (by omega))) (by simp) (.inl (by simp only[MTag.rank];omega))
   ·obtain⟨a',hgo,mz,hk⟩:=hmiss e;exact h.bookM (tag':=.anch) hB hS hF ha hgo (.refl _ w) h.wg Go.ConcN.bk_rd (.anch hk) hfit (j37 (by simp) (by simp) (hm.reopen trivial trivial rfl (by simp[MTag.c]))) (by simp) (.inl (by simp only[MTag.rank];omega))
  ·obtain⟨a',w',es,hgo,hD,hg'⟩:=hstep w (RM.refl' w);exact h.idleM hS hF ha hgo hD (.w2 hg') (by omega)
 | w3 hG=>
  have hm:=hmode.2 (by simp) (by simp);rcases Goes.cases hG with hstop|⟨m',rfl,hstep⟩
  ·obtain⟨_,hoff,hblk,htake⟩:=hstop w (RM.refl' w);have hwg:=h.wg;cases hm with
   | opn h1 _ _=>exact h1.elim
   | reg h1 h2 h3=>exact h.bookM (tag':=.blk) hB hS hF ha (hblk ⟨_,hwg⟩) (.refl _ w) hwg (by simp) (.blk hstop) hfit (j37 (by simp) (by simp) (.reg trivial h2 h3)) (by simp) (.inr ⟨rfl,by omega⟩)
   | last L h1 h2 h3 h4=>exact h.bookM (tag':=.blk) hB hS hF ha (hblk ⟨_,hwg⟩) (.refl _ w) hwg (by simp) (.blk hstop) hfit (j37 (by simp) (by simp) (.last L trivial h2 h3 h4)) (by simp) (.inr ⟨rfl,by omega⟩)
   | sema h2=>
    obtain⟨a',hgo,mz,hk⟩:=htake hwg;exact h.bookM (tag':=.w4) hB hS hF ha hgo (aside_setCell w (smA (N+7)) _) (hwg.setSm 0) Go.ConcN.bk_sem (.w4 hk) hfit (j37 (by simp) (by simp) (.fin trivial h2)) (by simp) (.inl (by simp only[MTag.rank];omega))
   | fin h1 _=>exact h1.elim
  ·obtain⟨a',w',es,hgo,hD,hg'⟩:=hstep w (RM.refl' w);exact h.idleM hS hF ha hgo hD (.w3 hg') (by omega)
 | blk hb=>simp at hrun
 | w4 hG=>
  have hm:=hmode.2 (by simp) (by simp);rcases Goes.cases hG with hstop|⟨m',rfl,hstep⟩
  ·obtain⟨_,hx⟩:=hstop w (RM.refl' w);obtain⟨hq,hst,hsm⟩:=hm.fin_inv trivial;have hwg:=h.wg;rw[hst,hsm]at hwg;obtain⟨a',hgo,mz,hk⟩:=hx hwg;exact h.bookM (tag':=.ke) hB hS hF ha hgo (.refl _ w) hwg Go.ConcN.bk_rd (.ke hk) hfit (j37 (by simp) (by simp) (.fin trivial hq)) (by simp) (.inl (by simp only[MTag.rank];omega))
  ·obtain⟨a',w',es,hgo,hD,hg'⟩:=hstep w (RM.refl' w);exact h.idleM hS hF ha hgo hD (.w4 hg') (by omega)
 | ke hG=>
  have hm:=hmode.2 (by simp) (by simp);rcases Goes.cases hG with hstop|⟨m',rfl,hstep⟩
  ·obtain⟨_,a',hgo,mz,hk⟩:=hstop w (RM.refl' w);obtain⟨hq,hst,hsm⟩:=hm.fin_inv trivial;have hwg:=h.wg;rw[hst,hsm]at hwg;exact h.bookM (tag':=.acq) hB hS hF ha hgo (.refl _ w) hwg Go.ConcN.bk_en (.acq hk) hfit (j37 (by simp) (by simp) (.fin trivial hq)) (by simp) (.inl (by simp only[MTag.rank];omega))
  ·obtain⟨a',w',es,hgo,hD,hg'⟩:=hstep w (RM.refl' w);exact h.idleM hS hF ha hgo hD (.ke hg') (by omega)
 | acq hG=>
  have hm:=hmode.2 (by simp) (by simp);rcases Goes.cases hG with hstop|⟨m',rfl,hstep⟩
  ·obtain⟨_,a',hgo,mz,hk⟩:=hstop w (RM.refl' w);obtain⟨hq,hst,hsm⟩:=hm.fin_inv trivial;have hpos:=h.pos;have hwg:=h.wg;rw[hst,hsm]at hwg;have hacq:Acq2 N n0 T0 (t++MemOp.ofEvents 0 a.frame.fn a.frame.place #[Go.ConcR.mk (.acquire (stA (N+7)))]):=by
    have e1:MemOp.ofEvents 0 a.frame.fn a.frame.place #[Go.ConcR.mk (.acquire (stA (N+7)))]=#[{ g:=0,fn:=a.frame.fn,pos:=a.frame.place,act:=.mark (.acquire (stA (N+7))) }]:=by rw[ofEvents_eq];simp[Go.ConcR.ofEvent_mk]
    have hy:(t++#[({ g:=0,fn:=a.frame.fn,pos:=a.frame.place,act:=.mark (.acquire (stA (N+7))) }:MemOp)])[t.size]?=some { g:=0,fn:=a.frame.fn,pos:=a.frame.place,act:=.mark (.acquire (stA (N+7))) }:=by simp
    refine⟨t.size,by rw[e1,act?_of hy],by rw[e1];simp[Trace.g?],by rw[e1];exact⟨0,by simp[Trace.g?],by rw[deaf_old (Nat.le_refl _)];exact h.deaf0⟩,λk hk=>?_⟩;rcases hk with rfl|rfl
    ·obtain⟨r,hr,h0⟩:=h.relS (by rw[hq 0 (by omega)];omega);exact⟨r,hr.appOther g_of_ofEvents (by omega),h0,lt_of_act? hr.act⟩
    ·obtain⟨r,hr,h0⟩:=h.relR (by rw[hq 1 (by omega)];omega);exact⟨r,hr.appOther g_of_ofEvents (by omega),h0,lt_of_act? hr.act⟩
   obtain⟨gs',hr,hco⟩:=h.stepM (sl:=sl) (tag':=.out) (f':=mz) (st':=0) (sm':=0) hS hF ha hgo (.refl _ _) hwg (λop hop=>by
     obtain⟨e,he,rfl⟩:=Go.Conc.mem_ofEvents hop;simp at he;subst he;exact⟨rfl,λx hx=>(by cases hx),show N+7<B by omega,λe=>(by cases e)⟩) (.out hk) hfit (j37 (by simp) (by simp) (.fin trivial hq)) (λ_=>hacq)
   exact⟨_,_,_,hr,Prod.Lex.left _ _ (by simp only[MTag.rank];omega),gs',_,sl,.out,mz,_,p,q,0,0,rfl,hco,rfl⟩
  ·obtain⟨a',w',es,hgo,hD,hg'⟩:=hstep w (RM.refl' w);exact h.idleM hS hF ha hgo hD (.acq hg') (by omega)
 | out hG=>
  rcases Goes.cases hG with hstop|⟨m',rfl,hstep⟩
  ·exact absurd ⟨rfl,hstop⟩ hno
  ·obtain⟨a',w',es,hgo,hD,hg'⟩:=hstep w (RM.refl' w);exact h.idleM hS hF ha hgo hD (.out hg') (by omega)
end
end Go.Proofs.Mn
namespace Go.Proofs.Mn
open Go Go.Conc
open Go.ConcN (WSit RW WgLive DWs AtR0 WD CTag Vc cnt upd Ssum Fsum phi isOpen isW3 isFin RelBy sumTo)
open Go.ConcR (KK wgBlock WgAt stA smA rd wr mk Payload DC0 Bk g_of_ofEvents)
variable [Payload]
theorem jvq {P:Program}{α:Type}{r:α->α->Prop}(wf:WellFounded r)(Inv:α->Machine->Trace->Prop)(Q:Machine->Trace->Prop)
  (h:∀μ m t,Inv μ m t->Q m t\/∃m' ops μ',stepT P m=(.next m',ops)/\r μ' μ/\Inv μ' m' (t++ops)) :
  ∀μ m t,Inv μ m t->∃n m' t',runNT P n m t=(.next m',t')/\Q m' t':=by
 intro μ;induction μ using wf.induction with
 | _ μ ih=>
  intro m t hI;rcases h μ m t hI with hq|⟨m',ops,μ',hs,hr,hI'⟩
  ·exact⟨0,m,t,rfl,hq⟩
  ·obtain⟨n,mz,tq,h1,h2⟩:=ih μ' hr m' (t++ops) hI';exact⟨n+1,mz,tq,by simp only[runNT,hs];exact h1,h2⟩
section
variable {P:Program}{ty:TypeId}{N B:Nat}{w0:World}{Fin:World->Prop}{v vs vr:Value}{AnchW Out:Goroutine->World->Prop}{Shun:Loc->Prop}{n0 T0:Nat}
 {tag tag':MTag}{f f' d0:Nat}{p p':PTag}{q:Nat->Nat}{gs gs':Array Goroutine}{w w':World}{t u:Trace}{st sm st' sm':Int}{a a' g g' child:Goroutine}{es:Array Event}{sl:Option (Nat×Nat)}{i k:Nat}{fn:FuncId}{pos:String}
theorem DSit.running {val:Value}{s m d:Nat}(h:DSit P ty N k val s m d g w)(hs:s≠1):g.status=.running:=by
 cases h with
 | r0 h=>unfold ToDone at h;exact Goes.running (λ_ _ x=>x.1) w (RW.refl w) h
 | rest _ h=>
  cases h with
  | r0 h=>exact Goes.running (λ_ _ x=>x.1) w (RW.refl w) h
  | k1 h=>exact Goes.running (λ_ _ x=>x.1) w (RW.refl w) h
  | d1 h=>exact Goes.running (λ_ _ x=>x.1) w (RW.refl w) h
  | d2 h=>exact Goes.running (λ_ _ x=>x.1) w (RW.refl w) h
  | d3 h=>exact Goes.running (λ_ _ x=>x.1) w (RW.refl w) h
  | d4 h=>exact Goes.running (λ_ _ x=>x.1) w (RW.refl w) h
  | quit h=>exact absurd rfl hs
theorem DSit.quits {val:Value}{s m d:Nat}(h:DSit P ty N k val s m d g w)(hs:s=1):QuitsD P m d g:=by
 cases h with
 | r0 h=>cases hs
 | rest _ h=>exact h.quits hs
theorem j9g {m:Nat}(h:ToRecv P ty N B Fin v vr m g w):g.status=.running:=by
 unfold ToRecv at h;exact Goes.running (λ_ _ x=>x.1) w (RR.refl' w) h
theorem jco {m:Nat}(h:ToRecv2 P ty N B Fin vr m g w):g.status=.running:=by
 unfold ToRecv2 at h;exact Goes.running (λ_ _ x=>x.1) w (RR.refl' w) h
theorem R2.run {m:Nat}(h:R2 P ty N B Fin vr m g w):g.status=.running:=by
 cases h with
 | walk h=>exact jco h
 | again _=>rfl
theorem PAt.someRun {x y:Option Goroutine}(h:PAt P ty N B w0 Fin v vs vr p x y w) :
  (∀g,x=some g->Go.Conc.awake g)/\(∀g,y=some g->Go.Conc.awake g)/\(p.kids=2->((p.d 0).stage=1->(p.d 1).stage=1->False)->(∃g,x=some g/\g.status=.running)\/∃g,y=some g/\g.status=.running):=by
 have nn:∀g,(Option.none:Option Goroutine)=some g->Go.Conc.awake g:=λ_ e=>by cases e
 have aw:∀{a:Goroutine},(a.status=.running\/a.status=.blocked\/a.status=.finished)->∀g,some a=some g->Go.Conc.awake g:=λh _ e=>by cases e;exact awake_of h
 cases h with
 | none _=>exact⟨nn,nn,λe=>by cases e⟩
 | sa _ h=>exact⟨aw (.inl (j44 h)),nn,λe=>by cases e⟩
 | sb _ h=>exact⟨aw (.inr (.inl rfl)),nn,λe=>by cases e⟩
 | ca h k=>exact⟨aw (.inl (j44 h)),aw (.inl (j9g k)),λ_ _=>.inl ⟨_,rfl,j44 h⟩⟩
 | cb h k=>exact⟨aw (.inr (.inl rfl)),aw (.inl (j9g k)),λ_ _=>.inr ⟨_,rfl,j9g k⟩⟩
 | cc h k=>exact⟨aw (.inl (j44 h)),aw (.inr (.inl rfl)),λ_ _=>.inl ⟨_,rfl,j44 h⟩⟩
 | da h k=>exact⟨aw (.inl (j4d h)),aw (.inl (jco k)),λ_ _=>.inl ⟨_,rfl,j4d h⟩⟩
 | db h k=>exact⟨aw (.inl (j4d h)),aw (.inr (.inl rfl)),λ_ _=>.inl ⟨_,rfl,j4d h⟩⟩
 | ea h k=>exact⟨aw (h.status.elim .inl λe=>.inr (.inr e)),aw (.inl k.run),λ_ _=>.inr ⟨_,rfl,k.run⟩⟩
 | @fa d e _ _ _ h k _=>
  refine⟨aw (h.status.elim .inl λe=>.inr (.inr e)),aw (k.status.elim .inl λe=>.inr (.inr e)),λ_ hn=>?_⟩;by_cases h1:d.stage=1
  ·exact .inr ⟨_,rfl,k.running λe1=>hn h1 e1⟩
  ·exact .inl ⟨_,rfl,h.running h1⟩
theorem Co.allAwake (hAr:∀g w,AnchW g w->g.status=.running)(hOr:∀g w,Out g w->g.status=.running)(h:(Co P ty N B w0 Fin v vs vr AnchW Out Shun n0 T0) tag f d0 p q gs w t st sm):∀g∈gs,Go.Conc.awake g:=by
 intro g hg;obtain⟨i,hi,rfl⟩:=Array.mem_iff_getElem.1 hg;have hk:p.kids<=2:=by cases p<;>simp[PTag.kids]
 have hsz:=h.size;have hpos:=h.pos;have he:gs[i]?=some gs[i]:=Array.getElem?_eq_getElem hi;rcases Nat.eq_zero_or_pos i with rfl|hp
 ·obtain⟨a,ha,hs⟩:=h.m0;rw[ha]at he;cases he;exact awake_of ((hs.status hAr hOr).elim (λx=>.inl x.1) λx=>.inr (.inl x.1))
 ·rcases Nat.lt_or_ge i n0 with hlt|hge
  ·exact awake_of ((h.old i _ hp hlt he).status.elim .inl λx=>.inr (.inr x))
  ·rcases(by omega:i=n0\/i=n0+1)with e|e
   ·subst e;exact h.pr.someRun.1 _ he
   ·subst e;exact h.pr.someRun.2.1 _ he
theorem Co.someone (hAr:∀g w,AnchW g w->g.status=.running)(hOr:∀g w,Out g w->g.status=.running)(h:(Co P ty N B w0 Fin v vs vr AnchW Out Shun n0 T0) tag f d0 p q gs w t st sm):∃(i:Nat)(g:Goroutine),gs[i]?=some g/\g.status=.running:=by
 obtain⟨a,ha,hs⟩:=h.m0;rcases hs.status hAr hOr with⟨hr,_⟩|⟨_,rfl⟩
 ·exact⟨0,a,ha,hr⟩
 ·have hk:p.kids=2:=h.fit;have hm:=h.mode.2 (by simp) (by simp);have hn:(p.d 0).stage=1->(p.d 1).stage=1->False:=by
   intro h0 h1;have all:∀i,i<2->(p.d i).stage=1:=λi hi=>by rcases(by omega:i=0\/i=1)with rfl|rfl<;>assumption
   cases hm with
   | opn h1 _ _=>exact h1.elim
   | reg _ _ h3=>
    have:Vc 2 p.d=0:=by simp[Vc,sumTo,cnt,h0,h1]
    omega
   | last L _ hL h3 _=>have:=all L hL;omega
   | fin h1 _=>exact h1.elim
  rcases h.pr.someRun.2.2 hk hn with⟨g,hg,hr⟩|⟨g,hg,hr⟩
  ·exact⟨_,g,hg,hr⟩
  ·exact⟨_,g,hg,hr⟩
def PEnd (P:Program)(ty:TypeId)(N B:Nat)(w0:World)(Fin:World->Prop)(Out:Goroutine->World->Prop)(Shun:Loc->Prop)(n0:Nat)(m:Machine)(t:Trace):Prop:=
 ∃(gs:Array Goroutine) (a:Goroutine) (w:World) (sl:Option (Nat×Nat)) (q:Nat->Nat),m=crowd gs w sl/\gs[0]?=some a/\gs.size=n0+2/\Out a w/\Keep N w0 w/\Fin w/\w.heap[N+2]?=some (.chan 0 #[] true 1 1 false)/\WgAt ty (N+7) w 0 0 /\
  Leavers P t gs q/\Past (λl=>Shun l\/shG N l) B t
theorem Co.end (h:(Co P ty N B w0 Fin v vs vr AnchW Out Shun n0 T0) .out f d0 p q gs w t st sm)(ha:gs[0]?=some a)(hO:Out a w):PEnd P ty N B w0 Fin Out Shun n0 (crowd gs w sl) t:=by
 have hm:=h.mode.2 (by simp) (by simp);obtain⟨hq,rfl,rfl⟩:=hm.fin_inv trivial;have hpos:=h.pos;have hk:p.kids=2:=h.fit;have hsz:=h.size;have hd0:d0=0:=by
  obtain⟨a,_,hs⟩:=h.m0;cases hs;rfl
 have hpr:=h.pr;have q0:=hq 0 (by omega);have q1:=hq 1 (by omega);generalize hx:gs[n0]?=x at hpr;generalize hy:gs[n0+1]?=y at hpr;cases hpr with
 | fa hS hR hf=>
  rename_i d e g g'
  obtain⟨qq,h1,h2,h3,h4⟩:=h.acq rfl;have hdead:∀k,(PTag.fa d e).started n0 k->∃r,RelBy (stA (N+7)) t k r/\T0<=r/\r<qq:=λk hk=>h4 k hk;refine⟨gs,a,w,sl,upd (upd q n0 d.fuel) (n0+1) e.fuel,rfl,ha,by rw[hsz,hk],hO,h.keep,hf,h.chan,h.wg,⟨λi gq hi hg=>?_,h.above⟩,h.pt.done (by rw[h.deaf0,hd0]) hdead h1 h2 h3⟩;have hlt:=(Array.getElem?_eq_some_iff.1 hg).1;rcases Nat.lt_or_ge i n0 with hlt'|hge
  ·rw[Go.ConcN.upd_ne _ _ (by omega),Go.ConcN.upd_ne _ _ (by omega)];exact h.old i gq hi hlt' hg
  ·rcases(by omega:i=n0\/i=n0+1)with e'|e'
   ·subst e';rw[Go.ConcN.upd_ne _ _ (by omega),Go.ConcN.upd_same];rw[hg]at hx;cases hx;rw[h.deafS];exact hS.quits q0
   ·subst e';rw[Go.ConcN.upd_same];rw[hg]at hy;cases hy;rw[h.deafR];exact hR.quits q1
 | ea _ _=>simp[PTag.d]at q1
 | none _=>simp[PTag.kids]at hk
 | sa _ _=>simp[PTag.kids]at hk
 | sb _ _=>simp[PTag.kids]at hk
 | ca _ _=>simp[PTag.d]at q1
 | cb _ _=>simp[PTag.d]at q1
 | cc _ _=>simp[PTag.d]at q1
 | da _ _=>simp[PTag.d]at q1
 | db _ _=>simp[PTag.d]at q1
theorem jnw (hB:N+8<=B)(hS:∀l,Shun l->∃a,l=.cell a/\a.block<N)(hF:∀w w',RR ty N w w'->Fin w->Fin w')(hAr:∀g w,AnchW g w->g.status=.running)(hOr:∀g w,Out g w->g.status=.running)
  (hAn:∀g w,AnchW g w->∃m,Goes P true (RM ty N) (DM N B) (MW1 P ty N B AnchW Out) m g w)(μ:Nat×Nat)(m:Machine)(t:Trace)(h:PInv P ty N B w0 Fin v vs vr AnchW Out Shun n0 T0 μ m t) :
  PEnd P ty N B w0 Fin Out Shun n0 m t\/∃m' ops μ',stepT P m=(.next m',ops)/\Lt2 μ' μ/\PInv P ty N B w0 Fin v vs vr AnchW Out Shun n0 T0 μ' m' (t++ops):=by
 obtain⟨gs,w,sl,tag,f,d0,p,q,st,sm,rfl,h,rfl⟩:=h;by_cases hdone:∃a,gs[0]?=some a/\tag=.out/\∀wz,RM ty N w wz->Out a wz
 ·obtain⟨a,ha,rfl,hO⟩:=hdone;exact .inl (h.end ha (hO w (RM.refl' w)))
 ·refine .inr ?_;obtain⟨i,g,d,sl',hi,hrun,hst⟩:=crowd_pick (P:=P) (w:=w) (sl:=sl) (h.allAwake hAr hOr) (h.someone hAr hOr);rw[hst];have h':=h.at hF d;have hlt:=(Array.getElem?_eq_some_iff.1 hi).1;have hk:p.kids<=2:=by cases p<;>simp[PTag.kids]
  have hsz:=h.size;have hpos:=h.pos;rcases Nat.eq_zero_or_pos i with rfl|hp
  ·exact h'.stepMain hB hS hF hAn hi hrun λ⟨e,hO⟩=>hdone ⟨g,hi,e,λwz kv=>hO wz kv⟩
  ·rcases Nat.lt_or_ge i n0 with hlt'|hge
   ·obtain⟨tag',f',gs',ops,k,hqi,hr,htag,hf,hco⟩:=h'.stepOld (sl:=sl') hAr hOr hp hlt' hi hrun;refine⟨_,_,_,hr,?_,gs',_,sl',tag',f',d0,p,upd q i k,st,sm,rfl,hco,rfl⟩;rw[j4z htag];refine Prod.Lex.right _ ?_;have:sumTo n0 (upd q i k)+(k+1)=sumTo n0 q+k:=by
     have:=Go.ConcN.sumTo_upd q k id hlt';simpa[hqi]using this
    omega
   ·have hrunp:=h'.pr;rcases(by omega:i=n0\/i=n0+1)with e|e
    ·subst e;by_cases hp:(∃d m,p=.ea d m)\/∃d e,p=.fa d e
     ·exact h'.stepSD hB hS hF hAr hOr hi hrun hp
     ·exact h'.stepS hB hS hAr hOr hi hrun (λd m e=>hp (.inl ⟨d,m,e⟩)) (λd e e'=>hp (.inr ⟨d,e,e'⟩))
    ·subst e;by_cases hp:∃d e,p=.fa d e
     ·exact h'.stepRD hB hS hF hAr hOr hi hrun hp
     ·exact h'.stepR hB hS hAr hOr hi hrun (λd e e'=>hp ⟨d,e,e'⟩)
theorem phaseG {gs:Array Goroutine}{a:Goroutine}{w:World}{sl:Option (Nat×Nat)}{t:Trace}{q:Nat->Nat}{m:Nat}
  (hB:N+8<=B)(hS:∀l,Shun l->∃a,l=.cell a/\a.block<N)(hF:∀w w',RR ty N w w'->Fin w->Fin w')(hAr:∀g w,AnchW g w->g.status=.running)(hOr:∀g w,Out g w->g.status=.running)
  (hAn:∀g w,AnchW g w->∃m,Goes P true (RM ty N) (DM N B) (MW1 P ty N B AnchW Out) m g w)
  (h0:gs[0]?=some a)(hL:Leavers P t gs q)(hP:Past Shun (N+7) t)(hch:w.heap[N+2]?=some (.chan 0 #[] false 0 0 false))(hwg:WgAt ty (N+7) w 0 0)
  (hG:Goes P true (RM ty N) (DM N B) (MKd0 P ty N B AnchW (Born1 P ty N B w v vs) (Born2 P ty N B w Fin v vr)) m a w) :
  ∃K m' t',runNT P K (crowd gs w sl) t=(.next m',t')/\PEnd P ty N B w Fin Out Shun gs.size m' t':=by
 have hpos:0<gs.size:=(Array.getElem?_eq_some_iff.1 h0).1;have hno:∀(op:MemOp) (x:Touch),op∈t->op.act.touch?=some x->¬shG N x.loc:=by
  rintro op x hop hx ⟨b,hb,hbb⟩;have hl:=hP.seen op hop;generalize op.act=act at hx hl;have:x.loc.low (N+7):=by
   cases act with
   | access e=>cases hx;exact hl
   | mark mm=>cases mm<;>first|(cases hx;exact hl)|cases hx
   | _=>cases hx
  rw[hb]at this;have:b.block<N+7:=this;omega
 have hqt:Quiet (shG N) t:=λi op x hi hx hs=>(hno op x (Array.mem_of_getElem? hi) hx hs).elim;have hd1:Deaf t gs.size=0:=hL.above _ (Nat.le_refl _);have hd2:Deaf t (gs.size+1)=0:=hL.above _ (Nat.le_succ _);have n1:gs[gs.size]?=none:=Array.getElem?_eq_none (Nat.le_refl _);have n2:gs[gs.size+1]?=none:=Array.getElem?_eq_none (Nat.le_succ _);refine jvq (r:=Lt2) (Prod.lex Nat.lt_wfRel Nat.lt_wfRel).wf _ (PEnd P ty N B w Fin Out Shun gs.size) (jnw (T0:=t.size) (v:=v) (vs:=vs) (vr:=vr) hB hS hF hAr hOr hAn) _ _ _ ⟨gs,w,sl,.kd0,m,0,.none,q,0,0,rfl,?_,rfl⟩;exact{ fit:=rfl,size:=rfl,pos:=hpos,m0:=⟨a,h0,.kd0 hG⟩,pr:=by rw[n1,n2];exact .none ⟨rfl,rfl,rfl,rfl,λ_ _ _=>rfl,⟨_,_,hwg⟩⟩,old:=λi g hi _ hg=>hL.old i g hi hg,above:=hL.above,keep:=⟨rfl,rfl,rfl,Nat.le_refl _,λ_ _ _ _ _=>rfl⟩,chan:=hch,wg:=hwg,mode:=⟨λ_=>⟨rfl,rfl⟩,λe=>absurd rfl e⟩,pt:=PT.start (hP.mono (by omega)) hqt,deaf0:=hP.hears,deafS:=hd1,deafR:=hd2,relS:=rl7 rfl,relR:=rl7 rfl,acq:=λe=>by cases e }
end
end Go.Proofs.Mn
namespace Go.Proofs.Mn
open Go.Conc Go.RowKit Go.Conc.Lib Go.ConcR.Gen Go.ConcN.Gen
open Go.ConcN (WgLive)
open Go.ConcR (KK wgBlock WgAt stA smA rd wr mk Payload DC0)
theorem jpv {P:Program}{main:Bool}{R:World->World->Prop}{D:World->World->Array Event->Prop}{Stop:Goroutine->World->Prop}{n:Nat}{g:Goroutine}{w:World}(h:Goes P main R D Stop n g w):∀r,Goes P main R D Stop (n+r) g w
 | 0=>h
 | r+1=>(jpv h r).more
theorem calm {P:Program}{main:Bool}{R:World->World->Prop}{D:World->World->Array Event->Prop}{Stop:Goroutine->World->Prop}{m2:Nat}(refl:∀w,R w w)(hD:∀w,D w w #[]) :
  ∀{m1:Nat} {g:Goroutine} {w:World},Goes P main R DC0 (λg w=>Goes P main R D Stop m2 g w) m1 g w->Goes P main R D Stop (m1+m2) g w:=by
 intro m1;induction m1 with
 | zero=>intro g w h;rw[Nat.zero_add];exact h w (refl w)
 | succ n ih=>
  intro g w h;rcases h with hs|⟨hr,hs⟩
  ·have:=jpv (hs w (refl w)) (n+1);rwa[Nat.add_comm]at this
  ·have e:n+1+m2=(n+m2)+1:=by omega
   rw[e];refine Goes.step hr λwz kv=>?_;have:=hs wz kv;cases hgo:stepG P main g wz with
   | go g' w' es=>
    rw[hgo,goes_go]at this;obtain⟨⟨rfl,rfl⟩,hg⟩:=this;exact⟨hD _,ih hg⟩
   | _=>rw[hgo]at this;exact this.elim
theorem calm0 {P:Program}{main:Bool}{R:World->World->Prop}{D:World->World->Array Event->Prop}{Stop:Goroutine->World->Prop}(refl:∀w,R w w)(hD:∀w,D w w #[])
  {m1:Nat}{g:Goroutine}{w:World}(h:Goes P main R DC0 Stop m1 g w):Goes P main R D Stop m1 g w:=by
 induction m1 generalizing g w with
 | zero=>exact h
 | succ n ih=>
  rcases h with hs|⟨hr,hs⟩
  ·exact Goes.stop hs
  ·refine Goes.step hr λwz kv=>?_;have:=hs wz kv;cases hgo:stepG P main g wz with
   | go g' w' es=>
    rw[hgo,goes_go]at this;obtain⟨⟨rfl,rfl⟩,hg⟩:=this;exact⟨hD _,ih hg⟩
   | _=>rw[hgo]at this;exact this.elim
theorem j1v {N B:Nat}(w:World):DM N B w w #[]:=⟨rfl,by simp⟩
theorem jl4 {N B:Nat}(hB:N+8<=B){a:Addr}(ha:a.block=N+7){m:Mark}(hm:m=.read a\/m=.write a):EvM N B ⟨.mark m,false,true⟩:=by
 rcases hm with rfl|rfl
 ·refine⟨λx hx=>?_,by simp,by simp,show a.block<B by omega,by simp⟩;simp only[MemAct.ofEvent,MemAct.touch?,Option.some.injEq]at hx;subst hx;exact⟨⟨a,rfl,ha⟩,by simp⟩
 ·refine⟨λx hx=>?_,by simp,by simp,show a.block<B by omega,by simp⟩;simp only[MemAct.ofEvent,MemAct.touch?,Option.some.injEq]at hx;subst hx;exact⟨⟨a,rfl,ha⟩,by simp⟩
theorem j5 {ty:TypeId}{N:Nat}{w wz:World}(h:WgLive ty (N+7) w)(r:RM ty N w wz):WgLive ty (N+7) wz:=r h
variable {L:WgLink} [Payload]
def AnchG (L:WgLink)(N:Nat)(c:Frame)(cs:List Frame)(g:Goroutine)(w:World):Prop:=
 ∃T:Array Value,g=G ((base L.wait).at ⟨T,[]⟩ [.code (L7 L),.inLoop (L7 L),.inBlock 0]) (c::cs)/\T.size=84/\T[0]?=some (.pointer (some ⟨N+7,0,none⟩))/\WgLive L.tWg (N+7) w
def OutG (bq:Frame)(az:Act)(ops₀:Array Oper)(iq:Nat)(rest₀:List Nat)(kw:List Item)(cs:List Frame)(g:Goroutine)(_w:World):Prop:=g=G (bq.at (az.put ((ops₀[iq]?).bind (·.dst)) (.tuple #[])) (.inRegion ops₀ rest₀::kw)) cs
end Go.Proofs.Mn
namespace Go.Proofs.Mn
open Go.Conc Go.RowKit Go.Conc.Lib Go.ConcR.Gen Go.ConcN.Gen
open Go.ConcN (WgLive RW DWs AtR0 Has)
open Go.ConcR (KK wgBlock WgAt stA smA rd wr mk Payload DC0)
section
variable {P:Program}{main:Bool}{R:World->World->Prop}{D:World->World->Array Event->Prop}{Stop:Goroutine->World->Prop}
theorem j4b (refl:∀w,R w w){n:Nat}{g g':Goroutine}{w w':World}{es:Array Event}(h:Goes P main R D Stop n g w)(hs:stepG P main g w=.go g' w' es) :
  Stop g w\/(D w w' es/\∃n',Goes P main R D Stop n' g' w'):=by
 cases n with
 | zero=>exact .inl (h w (refl w))
 | succ n=>
  rcases h with h|⟨_,h⟩
  ·exact .inl (h w (refl w))
  ·have:=h w (refl w);rw[hs,goes_go]at this;exact .inr ⟨this.1,n,this.2⟩
theorem jt5 (refl:∀w,R w w)(trans:∀a b c,R a b->R b c->R a c):∀(m:Nat){n:Nat}{g:Goroutine}{w:World},Goes P main R D Stop n g w->Goes P main R DC0 (λg w=>∀n,Goes P main R D Stop n g w->Stop g w) m g w->Goes P main R DC0 Stop m g w:=by
 intro m;induction m with
 | zero=>
  intro n g w h k;exact λwz kv=>k wz kv n (h.rely trans kv)
 | succ m ih=>
  intro n g w h k;rcases k with k|⟨hr,k⟩
  ·exact .inl λwz kv=>k wz kv n (h.rely trans kv)
  ·cases n with
   | zero=>exact .inl h
   | succ n=>
    rcases h with h|⟨_,h⟩
    ·exact .inl h
    ·refine .inr ⟨hr,λwz kv=>?_⟩;have a:=h wz kv;have b:=k wz kv;cases hgo:stepG P main g wz with
     | go g' w' es=>
      rw[hgo,goes_go]at a b;rw[goes_go];exact⟨b.1,ih a.2 b.2⟩
     | _=>rw[hgo]at a;exact a.elim
end
variable {L:WgLink} [Payload]
theorem toDoneG {P:Program}(H:WgLib P L){N k:Nat}{val:Value}{c:Frame}{cs:List Frame}{qt:Nat}
  (hcm:c.mode=.returning)(hT:QuitsD P qt 0 (G c cs))(w:World)(hK:WgLive L.tWg (N+7) w/\Has (N+6) (k-1) val w) :
  ToDone P L.tWg N k val 23 (G ((baseD L.done).at ⟨#[.pointer (some ⟨N+7,0,none⟩),undef,undef,undef],[]⟩ [.code (body_done L)]) (c::cs)) w:=by
 unfold ToDone;refine jt5 (λw=>RW.refl w) (λa b c h k=>RW.trans h k) 23 (doneN (Own:=λ_ _=>False) (Rd:=λ_ _=>False) H hcm hT w hK) ?_
 lib_facts
 simp only[body_done,body_add,doneFn,addFn,Option.getD_some];u_reg kn_rely hK
 u_op kn_rely hK
 u_in kn_rely hK
 refine goes_call rfl rfl (by k_ne) rfl H.f_add (nm_add L) rfl ⟨by u_nil,?_⟩
 walk_nrmf addFn
 u_c stepG_seq kn_rely hK
 u_cond true kn_rely hK
 u_c stepG_seq kn_rely hK;u_c stepG_seq kn_rely hK;u_reg kn_rely hK
 u_op kn_rely hK
 u_op kn_rely hK
 u_c stepG_region_end kn_rely hK
 u_cond true kn_rely hK
 u_reg kn_rely hK
 u_op kn_rely hK
 u_conv H.underlying_tWgP H.room_tWg (WgLive.cell0 hK.1).choose_spec kn_rely hK
 refine Goes.stop λwz kv=>?_;intro n h;rcases j4b (λw=>RW.refl w) h (stepG_markAt .releaseMerge (by simp) rfl rfl (by k_ne) rfl H.f_relMerge (x_relMerge_n L) (x_relMerge_b L) (x_relMerge_x L) (x_relMerge_f L) (ad:=⟨N+7,0,none⟩) (by simp[Act.eval]))with hs|⟨_,n1,h1⟩
 ·exact hs
 exfalso;clear h;have no:∀{g g':Goroutine} {w:World},stepG P false g w=.go g' w #[]->¬AtR0 P L.tWg (N+7) (N+6) 2 0 k val g w:=λe h=>by
  obtain⟨_,_,g2,e2,_⟩:=h;rw[e]at e2;injection e2 with _ _ e3
  cases e3
 rcases j4b (λw=>RW.refl w) h1 stepG_region_end with hs|⟨_,n2,h2⟩
 ·exact no stepG_region_end hs
 rcases j4b (λw=>RW.refl w) h2 stepG_seq with hs|⟨_,n3,h3⟩
 ·exact no stepG_seq hs
 rcases j4b (λw=>RW.refl w) h3 stepG_region with hs|⟨_,n4,h4⟩
 ·exact no stepG_region hs
 simp only[List.size_toArray,List.length_cons,List.length_nil,Nat.reduceAdd,Nat.zero_add,List.range,List.range.loop]at h4;rcases j4b (λw=>RW.refl w) h4 (stepG_mark0 .disable (by simp) rfl rfl (by k_ne) rfl H.f_disable (x_disable_n L) (x_disable_b L) (x_disable_x L) (x_disable_f L))with hs|⟨hD,_⟩
 ·obtain⟨_,_,g2,e2,_⟩:=hs;rw[stepG_mark0 .disable (by simp) rfl rfl (by k_ne) rfl H.f_disable (x_disable_n L) (x_disable_b L) (x_disable_x L) (x_disable_f L)]at e2;injection e2 with _ _ e3
  cases e3
 ·exact(hD.2 ⟨.mark .disable,false,true⟩ (by simp)).2.1 rfl
end Go.Proofs.Mn
namespace Go.Proofs.Mn
open Go.Conc Go.RowKit Go.Conc.Lib Go.ConcR.Gen Go.ConcN.Gen
open Go.ConcN (WgLive)
open Go.ConcR (KK wgBlock WgAt stA smA rd wr mk Payload DC0)
variable {L:WgLink} [Payload]
section
variable {N B:Nat}{bq:Frame}{az:Act}{ops₀:Array Oper}{iq:Nat}{rest₀:List Nat}{kw:List Item}{cs:List Frame}
theorem waitRoundG {P:Program}(H:WgLib P L)(hB:N+8<=B)(g:Goroutine)(w:World)(h:AnchG L N (bq.at az (.inRegion ops₀ (iq::rest₀)::kw)) cs g w) :
  ∃m,Goes P true (RM L.tWg N) (DM N B) (MW1 P L.tWg N B (AnchG L N (bq.at az (.inRegion ops₀ (iq::rest₀)::kw)) cs) (OutG bq az ops₀ iq rest₀ kw cs)) m g w:=by
 lib_facts
 obtain⟨T,rfl,hT84,t0,hF⟩:=h;obtain⟨v0,v1,v2,v3,v4,v5,v6,v7,v8,v9,v10,v11,v12,v13,v14,v15,v16,v17,v18,v19,v20,v21,v22,v23,v24,v25,v26,v27,v28,v29,v30,v31,v32,v33,v34,v35,v36,v37,v38,v39,v40,v41,v42,v43,v44,v45,v46,v47,v48,v49,v50,v51,v52,v53,v54,v55,v56,v57,v58,v59,v60,v61,v62,v63,v64,v65,v66,v67,v68,v69,v70,v71,v72,v73,v74,v75,v76,v77,v78,v79,v80,v81,v82,v83,rfl⟩:=array84 T hT84;simp only[List.getElem?_toArray,List.getElem?_cons_zero,Option.some.injEq]at t0;subst t0;refine⟨60,calm0 RM.refl' j1v ?_⟩;simp only[L7,body_wait,waitFn,Option.getD_some];u_c stepG_block j5 hF;u_c stepG_seq j5 hF;u_reg j5 hF
 u_op j5 hF
 u_op j5 hF
 u_op j5 hF
 u_call H.f_uLoad (nm_uLoad L) uLoadFn j5 hF
 u_c stepG_seq j5 hF;u_reg j5 hF
 u_op j5 hF
 u_c stepG_region_end j5 hF;u_c stepG_seq j5 hF;u_reg j5 hF
 u_op j5 hF
 u_op j5 hF
 u_op j5 hF
 refine Goes.stop λwz kv=>?_;replace hF:=j5 hF kv;clear kv;refine⟨rfl,λv hv hw=>?_⟩;rcases Nat.eq_zero_or_pos v with rfl|hvp
 ·
  replace hw:WgAt L.tWg (N+7) wz 0 0:=by simpa using hw
  refine⟨_,stepG_load_atomic (v:=0) rfl rfl (by k_ne) rfl H.f_loadU64 (x_loadU64_n L) (x_loadU64_b L) (x_loadU64_x L) .u64 (x_loadU64_f L) rfl hw.cellSt,λ_=>⟨60,calm0 RM.refl' j1v ?_⟩,λh=>absurd rfl h⟩;clear hw
  walk_nrm
  u_op j5 hF
  u_c stepG_region_end j5 hF;u_c stepG_ret' j5 hF
  u_leave1 H.f_uLoad j5 hF
  u_op j5 hF
  u_c stepG_region_end j5 hF;u_c stepG_seq j5 hF;u_reg j5 hF
  u_op j5 hF
  u_op j5 hF
  u_op j5 hF
  u_op j5 hF
  u_c stepG_region_end j5 hF;u_c stepG_seq j5 hF;u_reg j5 hF
  u_op j5 hF
  u_op j5 hF
  u_op j5 hF
  u_op j5 hF
  u_c stepG_region_end j5 hF;u_c stepG_seq j5 hF;u_c stepG_seq j5 hF;u_reg j5 hF
  u_op j5 hF
  u_op j5 hF
  u_c stepG_region_end j5 hF
  u_cond true j5 hF
  u_c stepG_seq j5 hF
  u_cond true j5 hF
  u_c stepG_seq j5 hF;u_reg j5 hF;refine Goes.stop λww kx=>?_;replace hF:=j5 hF kx;clear kx;refine⟨rfl,_,stepG_mark0 .enable (by simp) rfl rfl (by k_ne) rfl H.f_enable (x_enable_n L) (x_enable_b L) (x_enable_x L) (x_enable_f L),20,calm0 RM.refl' j1v ?_⟩
  walk_nrm
  u_c stepG_region_end j5 hF;u_reg j5 hF
  u_op j5 hF
  u_conv H.underlying_tWgP H.room_tWg (WgLive.cell0 hF).choose_spec j5 hF
  refine Goes.stop λwy ky=>?_;replace hF:=j5 hF ky;clear ky;refine⟨rfl,_,stepG_markAt .acquire (by simp) rfl rfl (by k_ne) rfl H.f_acquire (x_acquire_n L) (x_acquire_b L) (x_acquire_x L) (x_acquire_f L) (by simp[Act.eval,stA]),30,calm0 RM.refl' j1v ?_⟩
  walk_nrm
  u_c stepG_region_end j5 hF;u_c stepG_seq j5 hF;u_c stepG_seq j5 hF;u_reg j5 hF
  u_op j5 hF
  u_op j5 hF
  u_op j5 hF
  u_op j5 hF
  u_op j5 hF
  u_op j5 hF
  u_op j5 hF
  u_op j5 hF
  u_skip j5 hF
  u_skip j5 hF
  u_op j5 hF
  u_c stepG_region_end j5 hF
  u_cond false j5 hF
  u_c stepG_skip j5 hF;u_c stepG_ret' j5 hF
  u_leave0 H.f_wait j5 hF
  exact Goes.stop (λ_ _=>rfl)
 ·
  obtain⟨S,hS⟩:∃S:Int,(v:Int)*KK=S:=⟨_,rfl⟩;have a1:S / 4294967296=(v:Int):=by rw[<- hS];simp only[KK];omega
  have b1:bits .and .u64 S 2147483648=0:=by rw[<- hS];have:=Go.ConcN.st_flag v 0 (by omega) (by omega);simpa[KK]using this
  have b2:bits .and .u64 S 2147483647=0:=by rw[<- hS];have:=Go.ConcN.st_waiters v 0 (by omega) (by omega);simpa[KK]using this
  have c1:IntKind.i32.wrap (v:Int)=(v:Int):=by rw[IntKind.wrap_i32];omega
  have w1:IntKind.u64.wrap (S+1)=S+1:=by rw[IntKind.wrap_u64,<- hS];simp only[KK];omega
  have q3:decide ((v:Int)<0)=false:=decide_eq_false (by omega);have q4:decide (0<(v:Int))=true:=decide_eq_true (by omega);have q5:((v:Int)==0)=false:=by simp;omega
  have q6:decide ((v:Int)=0)=false:=decide_eq_false (by omega);rw[hS]at hw;refine⟨_,stepG_load_atomic (v:=S) rfl rfl (by k_ne) rfl H.f_loadU64 (x_loadU64_n L) (x_loadU64_b L) (x_loadU64_x L) .u64 (x_loadU64_f L) rfl hw.cellSt,λh0=>absurd h0 (by omega),λ_=>⟨60,calm0 RM.refl' j1v ?_⟩⟩;clear hw
  walk_nrm
  u_op j5 hF
  u_c stepG_region_end j5 hF;u_c stepG_ret' j5 hF
  u_leave1 H.f_uLoad j5 hF
  u_op j5 hF
  u_c stepG_region_end j5 hF;u_c stepG_seq j5 hF;u_reg j5 hF
  u_op j5 hF
  u_op j5 hF
  u_op j5 hF
  u_op j5 hF
  u_c stepG_region_end j5 hF;u_c stepG_seq j5 hF;u_reg j5 hF
  u_op j5 hF
  u_op j5 hF
  u_op j5 hF
  u_op j5 hF
  u_c stepG_region_end j5 hF;u_c stepG_seq j5 hF;u_c stepG_seq j5 hF;u_reg j5 hF
  u_op j5 hF
  u_op j5 hF
  u_c stepG_region_end j5 hF
  u_cnd false j5 hF
  u_c stepG_skip j5 hF;u_c stepG_seq j5 hF;u_reg j5 hF
  u_op j5 hF
  u_op j5 hF
  u_op j5 hF
  u_op j5 hF
  u_op j5 hF
  u_op j5 hF
  u_call H.f_uCas (nm_uCas L) uCasFn j5 hF
  u_c stepG_seq j5 hF;u_reg j5 hF
  u_op j5 hF
  u_c stepG_region_end j5 hF;u_c stepG_seq j5 hF;u_reg j5 hF
  u_op j5 hF
  u_op j5 hF
  u_op j5 hF
  u_op j5 hF
  u_op j5 hF
  refine Goes.stop λwv kz=>?_;replace hF:=j5 hF kz;clear kz;refine⟨rfl,λv' hv' hw=>⟨λe=>?_,λe=>?_⟩⟩
  ·
   subst e;rw[hS]at hw ⊢;refine⟨_,(stepG_cas_hit (v:=S) (n:=S+1) rfl rfl (by k_ne) rfl H.f_casU64 (x_casU64_n L) (x_casU64_b L) (x_casU64_x L) .u64 (x_casU64_f L) rfl rfl rfl hw.cellSt (hw.thaw 0)).trans (by rfl),60+41,calm RM.refl' j1v ?_⟩;replace hF:WgLive L.tWg (N+7) (wv.setCell (stA (N+7)) (.int .u64 (S+1))):=⟨_,_,hw.setSt _⟩;clear hw
   walk_nrm
   u_op j5 hF
   u_c stepG_region_end j5 hF;u_c stepG_ret' j5 hF
   u_leave1 H.f_uCas j5 hF
   u_c stepG_region_end j5 hF
   u_cond true j5 hF
   u_c stepG_seq j5 hF;u_c stepG_seq j5 hF;u_reg j5 hF
   u_op j5 hF
   u_op j5 hF
   u_op j5 hF
   u_op j5 hF
   u_c stepG_region_end j5 hF
   u_cond true j5 hF
   u_reg j5 hF
   u_op j5 hF
   u_op j5 hF
   u_op j5 hF
   u_conv H.underlying_tPU32 H.room_tU32 (WgLive.cell1 hF).choose_spec j5 hF
   refine Goes.stop λwu ku=>?_;replace hF:=j5 hF ku;clear ku;refine Goes.step rfl λwa ka=>?_;replace hF:=j5 hF ka;clear ka;rw[stepG_markAt .write (by simp) rfl rfl (by k_ne) rfl H.f_raceWrite (x_raceWrite_n L) (x_raceWrite_b L) (x_raceWrite_x L) (x_raceWrite_f L) (ad:=⟨N+7,1,none⟩) (by simp[Act.eval])];simp only[goes_go];refine⟨⟨rfl,λex hex=>?_⟩,calm0 RM.refl' j1v ?_⟩
   ·rw[Array.mem_singleton]at hex;subst hex;exact jl4 hB rfl (.inr rfl)
   walk_nrm
   u_c stepG_region_end j5 hF;u_c stepG_seq j5 hF;u_reg j5 hF
   u_op j5 hF
   u_c stepG_region_end j5 hF;u_c stepG_seq j5 hF;u_c stepG_seq j5 hF;u_reg j5 hF
   u_op j5 hF
   u_op j5 hF
   u_op j5 hF
   u_op j5 hF
   u_skip j5 hF
   u_op j5 hF
   u_c stepG_region_end j5 hF
   u_cond false j5 hF
   u_c stepG_skip j5 hF;u_c stepG_seq j5 hF;u_reg j5 hF
   u_op j5 hF
   u_op j5 hF
   u_op j5 hF
   u_op j5 hF
   refine Goes.stop λwu ku=>?_;replace hF:=j5 hF ku;clear ku;refine⟨rfl,rfl,λ⟨st,hw⟩=>stepG_semacquire_wait rfl rfl rfl H.f_semacquire (x_semacquire_n L) (x_semacquire_b L) (x_semacquire_x L) (x_semacquire_f L) (by simp[Act.eval,smA]) hw.cellSm,λhf=>?_⟩;refine⟨_,(stepG_semacquire (n:=1) rfl rfl (by k_ne) rfl H.f_semacquire (x_semacquire_n L) (x_semacquire_b L) (x_semacquire_x L) (x_semacquire_f L) (by simp[Act.eval,smA]) hf.cellSm (by k_ne) (hf.thaw 1)).trans (by rfl),40,calm0 RM.refl' j1v ?_⟩;replace hF:WgLive L.tWg (N+7) (wu.setCell (smA (N+7)) (.int .u32 0)):=⟨_,_,hf.setSm 0⟩;clear hf
   walk_nrm
   u_c stepG_region_end j5 hF;u_c stepG_seq j5 hF;u_reg j5 hF
   u_op j5 hF
   u_op j5 hF
   u_op j5 hF
   u_call H.f_uLoad (nm_uLoad L) uLoadFn j5 hF
   u_c stepG_seq j5 hF;u_reg j5 hF
   u_op j5 hF
   u_c stepG_region_end j5 hF;u_c stepG_seq j5 hF;u_reg j5 hF
   u_op j5 hF
   u_op j5 hF
   u_op j5 hF
   refine Goes.stop λwa ka=>?_;replace hF:=j5 hF ka;clear ka;refine⟨rfl,λhw=>⟨_,stepG_load_atomic (v:=0) rfl rfl (by k_ne) rfl H.f_loadU64 (x_loadU64_n L) (x_loadU64_b L) (x_loadU64_x L) .u64 (x_loadU64_f L) rfl hw.cellSt,40,calm0 RM.refl' j1v ?_⟩⟩;clear hw
   walk_nrm
   u_op j5 hF
   u_c stepG_region_end j5 hF;u_c stepG_ret' j5 hF
   u_leave1 H.f_uLoad j5 hF
   u_op j5 hF
   u_op j5 hF
   u_c stepG_region_end j5 hF;u_c stepG_seq j5 hF
   u_cond true j5 hF
   u_c stepG_seq j5 hF;u_reg j5 hF;refine Goes.stop λww kx=>?_;replace hF:=j5 hF kx;clear kx;refine⟨rfl,_,stepG_mark0 .enable (by simp) rfl rfl (by k_ne) rfl H.f_enable (x_enable_n L) (x_enable_b L) (x_enable_x L) (x_enable_f L),20,calm0 RM.refl' j1v ?_⟩
   walk_nrm
   u_c stepG_region_end j5 hF;u_reg j5 hF
   u_op j5 hF
   u_conv H.underlying_tWgP H.room_tWg (WgLive.cell0 hF).choose_spec j5 hF
   refine Goes.stop λwy ky=>?_;replace hF:=j5 hF ky;clear ky;refine⟨rfl,_,stepG_markAt .acquire (by simp) rfl rfl (by k_ne) rfl H.f_acquire (x_acquire_n L) (x_acquire_b L) (x_acquire_x L) (x_acquire_f L) (by simp[Act.eval,stA]),30,calm0 RM.refl' j1v ?_⟩
   walk_nrm
   u_c stepG_region_end j5 hF;u_c stepG_seq j5 hF;u_c stepG_seq j5 hF;u_reg j5 hF
   u_op j5 hF
   u_c stepG_region_end j5 hF
   u_cond false j5 hF
   u_c stepG_skip j5 hF;u_c stepG_ret' j5 hF
   u_leave0 H.f_wait j5 hF
   exact Goes.stop (λ_ _=>rfl)
  ·
   refine⟨_,stepG_cas_miss (v:=(v':Int)*KK) (old:=S) (n:=S+1) rfl rfl (by k_ne) rfl H.f_casU64 (x_casU64_n L) (x_casU64_b L) (x_casU64_x L) .u64 (x_casU64_f L) rfl rfl rfl hw.cellSt (hw.thaw 0) (by rw[<- hS];simp only[KK];omega),20,calm0 RM.refl' j1v ?_⟩;clear hw
   walk_nrm
   u_op j5 hF
   u_c stepG_region_end j5 hF;u_c stepG_ret' j5 hF
   u_leave1 H.f_uCas j5 hF
   u_c stepG_region_end j5 hF
   u_cond false j5 hF
   u_c stepG_skip j5 hF;u_c stepG_inBlock j5 hF;u_c stepG_inLoop j5 hF;refine Goes.stop λwu ku=>?_;replace hF:=j5 hF ku;exact⟨_,rfl,by simp,by simp,hF⟩
end
end Go.Proofs.Mn
namespace Go.Proofs.Mn
open Go.Conc Go.RowKit Go.Conc.Lib Go.ConcR.Gen Go.ConcN.Gen
open Go.ConcN (WgLive)
open Go.ConcR (KK wgBlock WgAt stA smA rd wr mk Payload DC0)
variable {L:WgLink} [Payload]
section
variable {N B:Nat}{bq:Frame}{az:Act}{ops₀:Array Oper}{iq:Nat}{rest₀:List Nat}{kw:List Item}{cs:List Frame}
theorem waitStartG {P:Program}(H:WgLib P L){T:Array Value}(hT84:T.size=84)(t0:T[0]?=some (.pointer (some ⟨N+7,0,none⟩)))(w:World)(hF:WgLive L.tWg (N+7) w) :
  Goes P true (RM L.tWg N) (DM N B) (MKd P L.tWg N B (AnchG L N (bq.at az (.inRegion ops₀ (iq::rest₀)::kw)) cs)) 3
   (G ((base L.wait).at ⟨T,[]⟩ [.code (body_wait L)]) (bq.at az (.inRegion ops₀ (iq::rest₀)::kw)::cs)) w:=by
 refine calm0 RM.refl' j1v ?_
 lib_facts
 simp only[body_wait,waitFn,Option.getD_some];u_c stepG_seq j5 hF
 u_cond true j5 hF
 u_reg j5 hF;refine Goes.stop λwz kv=>?_;replace hF:=j5 hF kv;clear kv;refine⟨rfl,_,stepG_mark0 .disable (by simp) rfl rfl (by k_ne) rfl H.f_disable (x_disable_n L) (x_disable_b L) (x_disable_x L) (x_disable_f L),3,calm0 RM.refl' j1v ?_⟩;obtain⟨v0,v1,v2,v3,v4,v5,v6,v7,v8,v9,v10,v11,v12,v13,v14,v15,v16,v17,v18,v19,v20,v21,v22,v23,v24,v25,v26,v27,v28,v29,v30,v31,v32,v33,v34,v35,v36,v37,v38,v39,v40,v41,v42,v43,v44,v45,v46,v47,v48,v49,v50,v51,v52,v53,v54,v55,v56,v57,v58,v59,v60,v61,v62,v63,v64,v65,v66,v67,v68,v69,v70,v71,v72,v73,v74,v75,v76,v77,v78,v79,v80,v81,v82,v83,rfl⟩:=array84 T hT84;simp only[List.getElem?_toArray,List.getElem?_cons_zero,Option.some.injEq]at t0;subst t0
 walk_nrm
 u_c stepG_region_end j5 hF;u_c stepG_block j5 hF;u_c stepG_loop j5 hF;exact Goes.stop (λwv kz=>⟨_,rfl,by simp,by simp,j5 hF kz⟩)
theorem addTwoG {P:Program}(H:WgLib P L)(hB:N+8<=B){AnchW Born1 Born2:Goroutine->World->Prop}{mT:Nat}
  (hT:∀w,WgLive L.tWg (N+7) w->Goes P true (RM L.tWg N) (DM N B) (MGo1 P L.tWg N B AnchW Born1 Born2) mT (G (bq.at (az.put ((ops₀[iq]?).bind (·.dst)) (.tuple #[])) (.inRegion ops₀ rest₀::kw)) cs) w)
  (w:World)(hF:WgLive L.tWg (N+7) w) :
  Goes P true (RM L.tWg N) (DM N B) (MKd0 P L.tWg N B AnchW Born1 Born2) 20
   (G ((base L.add).at ⟨#[.pointer (some ⟨N+7,0,none⟩),.int .i64 2,undef,undef,undef,undef,undef,undef,undef,undef,undef,undef,undef,undef,undef,undef,undef,undef,undef,undef,undef,undef,undef,undef,undef,undef,undef,undef,undef,undef,undef,undef,undef,undef,undef,undef,undef,undef,undef,undef,undef,undef,undef,undef,undef,undef,undef,undef,undef,undef,undef,undef,undef,undef,undef,undef,undef,undef,undef,undef,undef,undef,undef,undef,undef,undef,undef,undef,undef,undef,undef,undef,undef,undef,undef,undef,undef,undef,undef,undef,undef,undef,undef,undef,undef,undef,undef,undef,undef,undef,undef,undef,undef,undef,undef,undef,undef,undef,undef,undef,undef,undef,undef,undef,undef,undef,undef,undef,undef,undef,undef,undef,undef,undef,undef,undef,undef],[]⟩ [.code (body_add L)]) (bq.at az (.inRegion ops₀ (iq::rest₀)::kw)::cs)) w:=by
 refine calm0 RM.refl' j1v ?_
 lib_facts
 simp only[body_add,addFn,Option.getD_some];u_c stepG_seq j5 hF
 u_cond true j5 hF
 u_c stepG_seq j5 hF;u_c stepG_seq j5 hF;u_reg j5 hF
 u_op j5 hF
 u_op j5 hF
 u_c stepG_region_end j5 hF
 u_cond false j5 hF
 u_c stepG_skip j5 hF;u_c stepG_seq j5 hF;u_reg j5 hF;refine Goes.stop λwz kv=>?_;replace hF:=j5 hF kv;clear kv;refine⟨rfl,_,stepG_mark0 .disable (by simp) rfl rfl (by k_ne) rfl H.f_disable (x_disable_n L) (x_disable_b L) (x_disable_x L) (x_disable_f L),60,calm0 RM.refl' j1v ?_⟩
 walk_nrm
 u_c stepG_region_end j5 hF;u_reg j5 hF;u_defer j5 hF;u_c stepG_region_end j5 hF;u_c stepG_seq j5 hF;u_reg j5 hF
 u_op j5 hF
 u_c stepG_region_end j5 hF;u_c stepG_seq j5 hF;u_c stepG_seq j5 hF;u_reg j5 hF
 u_bub j5 hF
 u_c stepG_region_end j5 hF
 u_cond false j5 hF
 u_c stepG_skip j5 hF;u_c stepG_seq j5 hF;u_reg j5 hF
 u_op j5 hF
 u_op j5 hF
 u_op j5 hF
 u_op j5 hF
 u_op j5 hF
 u_op j5 hF
 u_call H.f_uAdd (nm_uAdd L) uAddFn j5 hF
 u_c stepG_seq j5 hF;u_reg j5 hF
 u_op j5 hF
 u_c stepG_region_end j5 hF;u_c stepG_seq j5 hF;u_reg j5 hF
 u_op j5 hF
 u_op j5 hF
 u_op j5 hF
 u_op j5 hF
 refine Goes.stop λwv kz=>?_;replace hF:=j5 hF kz;clear kz;refine⟨rfl,λhw=>?_⟩;have e0:IntKind.u64.wrap (0+8589934592)=2*KK:=by decide
 have b1:bits .and .u64 8589934592 2147483648=0:=by decide
 have b2:bits .and .u64 8589934592 2147483647=0:=by decide
 refine⟨_,(stepG_add_atomic rfl rfl (by k_ne) rfl H.f_addU64 (x_addU64_n L) (x_addU64_b L) (x_addU64_x L) .u64 (x_addU64_f L) rfl rfl hw.cellSt (hw.thaw 0)).trans (by rw[e0];rfl),80+81,calm RM.refl' j1v ?_⟩;replace hF:WgLive L.tWg (N+7) (wv.setCell (stA (N+7)) (.int .u64 (2*KK))):=⟨_,_,hw.setSt _⟩;clear hw;simp only[KK,Int.reduceMul]at hF ⊢
 walk_nrm
 u_op j5 hF
 u_c stepG_region_end j5 hF;u_c stepG_ret' j5 hF
 u_leave1 H.f_uAdd j5 hF
 u_op j5 hF
 u_c stepG_region_end j5 hF;u_c stepG_seq j5 hF;u_c stepG_seq j5 hF;u_reg j5 hF
 u_op j5 hF
 u_op j5 hF
 u_op j5 hF
 u_op j5 hF
 u_skip j5 hF
 u_skip j5 hF
 u_op j5 hF
 u_c stepG_region_end j5 hF
 u_cond false j5 hF
 u_c stepG_skip j5 hF;u_c stepG_seq j5 hF;u_reg j5 hF
 u_op j5 hF
 u_op j5 hF
 u_op j5 hF
 u_op j5 hF
 u_c stepG_region_end j5 hF;u_c stepG_seq j5 hF;u_reg j5 hF
 u_op j5 hF
 u_op j5 hF
 u_op j5 hF
 u_op j5 hF
 u_c stepG_region_end j5 hF;u_c stepG_seq j5 hF;u_c stepG_seq j5 hF;u_reg j5 hF
 u_op j5 hF
 u_op j5 hF
 u_op j5 hF
 u_op j5 hF
 u_op j5 hF
 u_op j5 hF
 u_op j5 hF
 u_op j5 hF
 u_op j5 hF
 u_op j5 hF
 u_c stepG_region_end j5 hF
 u_cond true j5 hF
 u_reg j5 hF
 u_op j5 hF
 u_op j5 hF
 u_op j5 hF
 u_conv H.underlying_tPU32 H.room_tU32 (WgLive.cell1 hF).choose_spec j5 hF
 refine Goes.stop λwu ku=>?_;replace hF:=j5 hF ku;clear ku;refine Goes.step rfl λwa ka=>?_;replace hF:=j5 hF ka;clear ka;rw[stepG_markAt .read (by simp) rfl rfl (by k_ne) rfl H.f_raceRead (x_raceRead_n L) (x_raceRead_b L) (x_raceRead_x L) (x_raceRead_f L) (ad:=⟨N+7,1,none⟩) (by simp[Act.eval])];simp only[goes_go];refine⟨⟨rfl,λex hex=>?_⟩,calm0 RM.refl' j1v ?_⟩
 ·rw[Array.mem_singleton]at hex;subst hex;exact jl4 hB rfl (.inl rfl)
 walk_nrm
 u_c stepG_region_end j5 hF;u_c stepG_seq j5 hF;u_c stepG_seq j5 hF;u_reg j5 hF
 u_op j5 hF
 u_op j5 hF
 u_c stepG_region_end j5 hF
 u_cond false j5 hF
 u_c stepG_skip j5 hF;u_c stepG_seq j5 hF;u_c stepG_seq j5 hF;u_reg j5 hF
 u_op j5 hF
 u_op j5 hF
 u_op j5 hF
 u_skip j5 hF
 u_skip j5 hF
 u_op j5 hF
 u_op j5 hF
 u_skip j5 hF
 u_skip j5 hF
 u_skip j5 hF
 u_skip j5 hF
 u_op j5 hF
 u_c stepG_region_end j5 hF
 u_cond false j5 hF
 u_c stepG_skip j5 hF;u_c stepG_seq j5 hF;u_c stepG_seq j5 hF;u_reg j5 hF
 u_op j5 hF
 u_op j5 hF
 u_op j5 hF
 u_skip j5 hF
 u_skip j5 hF
 u_op j5 hF
 u_c stepG_region_end j5 hF
 u_cond true j5 hF
 u_c stepG_ret' j5 hF;refine Goes.stop λwu ku=>?_;replace hF:=j5 hF ku;clear ku;refine⟨rfl,_,stepG_unwind_entry (v:=.tuple #[]) (evs:=#[mk .enable]) rfl H.f_enable (x_enable_n L) (x_enable_b L) (x_enable_x L) (x_enable_f L) (by simp[Extern.Race.none_]) (by simp[mk]) (by simp[mk]),1+mT,calm RM.refl' j1v ?_⟩
 u_leave0 H.f_add j5 hF
 exact Goes.stop (λww kx=>hT _ (j5 hF kx))
end
end Go.Proofs.Mn
namespace Go.Proofs
abbrev Tryz.link:Go.Conc.Lib.WgLink:={ add:=131,done:=133,wait:=135,relMerge:=145,disable:=146,enable:=147,inBubble:=148,associate:=149,fatal:=150,uOr:=151,uAdd:=152,raceRead:=153,uLoad:=154,uStore:=155,disassociate:=156,semrelease:=157,acquire:=158,isAssociated:=159,uCas:=160,raceWrite:=161,semacquire:=162,orU64:=168,addU64:=169,loadU64:=170,storeU64:=171,casU64:=172,tWgP:=164,tUP:=86,tAssoc:=166,tWg:=152,tAU:=150,tU64:=148,tUint:=114,tU32:=123,tPU32:=170,tPAU:=194,tPU64:=196,tNoCopy:=145,tANoCopy:=146,tAlign64:=147 }
theorem Tryz.wgLib:Go.Conc.Lib.WgLib Tryz.prog Tryz.link:=
 ⟨Tryz.func131,Tryz.func133,Tryz.func135,Tryz.func145,Tryz.func146,Tryz.func147,Tryz.func148,Tryz.func149,Tryz.func150,Tryz.func151,Tryz.func152,Tryz.func153,Tryz.func154,Tryz.func155,Tryz.func156,Tryz.func157,Tryz.func158,Tryz.func159,Tryz.func160,Tryz.func161,Tryz.func162,Tryz.func168,Tryz.func169,Tryz.func170,Tryz.func171,Tryz.func172,Tryz.underlying164,Tryz.runUnderlying164,Tryz.sizeOf164,Tryz.isAgg164,Tryz.zeroValue164,Tryz.underlying86,Tryz.runUnderlying86,Tryz.sizeOf86,Tryz.isAgg86,Tryz.zeroValue86,Tryz.underlying166,Tryz.runUnderlying166,Tryz.sizeOf166,Tryz.isAgg166,Tryz.zeroValue166,Tryz.underlying152,Tryz.runUnderlying152,Tryz.sizeOf152,Tryz.isAgg152,Tryz.zeroValue152,Tryz.underlying150,Tryz.runUnderlying150,Tryz.sizeOf150,Tryz.isAgg150,Tryz.zeroValue150,Tryz.underlying148,Tryz.runUnderlying148,Tryz.sizeOf148,Tryz.isAgg148,Tryz.zeroValue148,Tryz.underlying114,Tryz.runUnderlying114,Tryz.sizeOf114,Tryz.isAgg114,Tryz.zeroValue114,Tryz.underlying123,Tryz.runUnderlying123,Tryz.sizeOf123,Tryz.isAgg123,Tryz.zeroValue123,Tryz.underlying170,Tryz.runUnderlying170,Tryz.sizeOf170,Tryz.isAgg170,Tryz.zeroValue170,Tryz.underlying194,Tryz.runUnderlying194,Tryz.sizeOf194,Tryz.isAgg194,Tryz.zeroValue194,Tryz.underlying196,Tryz.runUnderlying196,Tryz.sizeOf196,Tryz.isAgg196,Tryz.zeroValue196,Tryz.underlying0,Tryz.runUnderlying0,Tryz.sizeOf0,Tryz.isAgg0,Tryz.zeroValue0,Tryz.underlying3,Tryz.runUnderlying3,Tryz.sizeOf3,Tryz.isAgg3,Tryz.zeroValue3,Tryz.underlying4,Tryz.runUnderlying4,Tryz.sizeOf4,Tryz.isAgg4,Tryz.zeroValue4,Tryz.underlying9,Tryz.runUnderlying9,Tryz.sizeOf9,Tryz.isAgg9,Tryz.zeroValue9,Tryz.underlying20,Tryz.runUnderlying20,Tryz.sizeOf20,Tryz.isAgg20,Tryz.zeroValue20,Tryz.underlying21,Tryz.runUnderlying21,Tryz.sizeOf21,Tryz.isAgg21,Tryz.zeroValue21,(by kernel_rfl),(by kernel_rfl)⟩
end Go.Proofs
namespace Go.Proofs.Mn
instance:Go.ConcR.Payload:=⟨76⟩
end Go.Proofs.Mn
