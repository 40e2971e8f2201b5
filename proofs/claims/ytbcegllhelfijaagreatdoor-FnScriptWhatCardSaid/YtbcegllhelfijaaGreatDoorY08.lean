/-
  A part of the proof.
-/
import Derived.Test.YtbcegllhelfijaaGreatDoorY07
set_option linter.all false
set_option maxRecDepth 100000
set_option maxHeartbeats 8000000
namespace Go.Proofs.Mn
open Go Go.Conc
open Go.ConcN (WSit RW WgLive DWs AtR0 WD CTag Mode Vc cnt upd Ssum Fsum phi isOpen isW3 isFin RelBy sumTo)
open Go.ConcR (KK wgBlock WgAt stA smA rd wr mk Payload DC0 Bk g_of_ofEvents)
variable [Payload]
section
variable {P:Program}{ty:TypeId}{N B:Nat}{w0:World}{Fin:World->Prop}{v vs vr:Value}{AnchW Out:Goroutine->World->Prop}{Shun:Loc->Prop}{n0 T0:Nat}
 {tag:MTag}{f f' d0:Nat}{p p':PTag}{q:Nat->Nat}{gs gs':Array Goroutine}{w w':World}{t u:Trace}{st sm st' sm':Int}{a a' g g' child:Goroutine}{es:Array Event}{sl:Option (Nat×Nat)}{i k:Nat}{fn:FuncId}{pos:String}
theorem Co.notOut (h:(Co P ty N B w0 Fin v vs vr AnchW Out Shun n0 T0) tag f d0 p q gs w t st sm)(hi:i<2)(hd:(p.d i).stage≠1):tag≠.out:=by
 rintro rfl;exact(h.mode.2 (by simp) (by simp)).not_ret hi hd rfl
theorem Co.partS (hAr:∀g w,AnchW g w->g.status=.running)(hOr:∀g w,Out g w->g.status=.running)(h:(Co P ty N B w0 Fin v vs vr AnchW Out Shun n0 T0) tag f d0 p q gs w t st sm){r:Nat}{b:Bool}(hb:∀x,gs[n0+1]?=some x->offersAt x r b=[]):partners (gs.setIfInBounds n0 ph) r b=[]:=by
 refine partners_nil λj x hx=>?_;rcases getElem?_stand _ _ _ _ hx with⟨_,rfl⟩|⟨hj,hx'⟩
 ·exact offersAt_ph r b
 ·by_cases e:j=n0+1
  ·exact hb x (e▸hx')
  ·exact h.offers hAr hOr hx' hj e r b
theorem Co.partR (hAr:∀g w,AnchW g w->g.status=.running)(hOr:∀g w,Out g w->g.status=.running)(h:(Co P ty N B w0 Fin v vs vr AnchW Out Shun n0 T0) tag f d0 p q gs w t st sm){r:Nat}{b:Bool}(hb:∀x,gs[n0]?=some x->offersAt x r b=[]):partners (gs.setIfInBounds (n0+1) ph) r b=[]:=by
 refine partners_nil λj x hx=>?_;rcases getElem?_stand _ _ _ _ hx with⟨_,rfl⟩|⟨hj,hx'⟩
 ·exact offersAt_ph r b
 ·by_cases e:j=n0
  ·exact hb x (e▸hx')
  ·exact h.offers hAr hOr hx' e hj r b
theorem Co.waits (hS:∀l,Shun l->∃a,l=.cell a/\a.block<N)(h:(Co P ty N B w0 Fin v vs vr AnchW Out Shun n0 T0) tag f d0 p q gs w t st sm)(hk:k=n0\/k=n0+1)(hk':k<n0+p.kids)(hg:gs[k]?=some g){cases:Array CommCase}{shape:CommShape}
  (hst:stepG P false g w=.comm g cases true shape w es)(hnw:∀cc∈cases,NoWays w (gs.setIfInBounds k ph) cc)(hl:p.like p')(hch:p'.chan=p.chan)(hn:p≠.none)(hout:tag≠.out)(hdk:Deaf t k=0)
  (hcl:∀e∈es,e.loc≠.mark .disable/\e.loc≠.mark .enable)(hok:∀op∈MemOp.ofEvents k g.frame.fn g.frame.place es,OkPk (stA (N+7)) (shG N) (ownG N n0 (n0+1)) (rdG N n0 (n0+1)) B k op)
  (hpr:PAt P ty N B w0 Fin v vs vr p' (if k=n0 then some (parked g cases shape)else gs[n0]?) (if k=n0+1 then some (parked g cases shape)else gs[n0+1]?) w)
  (h7:(p.d 0).stage=7/\(p.d 1).stage=7)(hrank:p'.rank<p.rank):(Moves P ty N B w0 Fin v vs vr AnchW Out Shun n0 T0) (tag.rank (Vc 2 p.d)+p.rank,f+2*(p.fuel+sumTo n0 q)) gs w sl t k:=by
 have hpos:=h.pos;have hsz:=h.size;have hi:(k==0)=false:=by simp;omega
 have hr:=crowd_waits (P:=P) (sl:=sl) (i:=k) hg (by rw[hi];exact hst) hnw;refine⟨_,_,_,hr,?_,gs.setIfInBounds k (parked g cases shape),w,sl,tag,f,d0,p',q,st,sm,rfl,h.comm (p':=p') (by simp) (λj h1 h2=>?_) hl.kids (hl.started n0) ?_ (.refl _ w) (by rw[hch];exact h.chan)
  (h.ptk hS (jei hk hk') hdk hcl hok) (j2c hcl) hl.ds hl.dr (by rw[hl.d];intro h6;omega) (by rw[hl.d];intro h6;omega) (λi=>by rw[hl.d]) (j80 hl hn h.fit) hout,rfl⟩
 ·rw[hl.d];exact Prod.Lex.left _ _ (by omega)
 ·rw[Array.getElem?_setIfInBounds_ne (by omega)]
 ·have e1:(gs.setIfInBounds k (parked g cases shape))[n0]?=if k=n0 then some (parked g cases shape)else gs[n0]?:=by
   split
   ·rename_i e;subst e;rw[Array.getElem?_setIfInBounds_self_of_lt (by omega)]
   ·rename_i e;rw[Array.getElem?_setIfInBounds_ne e]
  have e2:(gs.setIfInBounds k (parked g cases shape))[n0+1]?=if k=n0+1 then some (parked g cases shape)else gs[n0+1]?:=by
   split
   ·rename_i e;subst e;rw[Array.getElem?_setIfInBounds_self_of_lt (by omega)]
   ·rename_i e;rw[Array.getElem?_setIfInBounds_ne e]
  rw[e1,e2];exact hpr
end
end Go.Proofs.Mn
namespace Go.Proofs.Mn
open Go Go.Conc
open Go.ConcN (WSit RW WgLive DWs AtR0 WD CTag Mode Vc cnt upd Ssum Fsum phi isOpen isW3 isFin RelBy sumTo)
open Go.ConcR (KK wgBlock WgAt stA smA rd wr mk Payload DC0 Bk g_of_ofEvents)
variable [Payload]
theorem jnh {m:Nat}:(PTag.sa m).like .sb:=⟨rfl,λ_=>rfl,funext λi=>by rcases i with _|_|i<;>rfl,rfl,rfl⟩
theorem jvh {m n:Nat}:(PTag.sa m).like (.sa n):=⟨rfl,λ_=>rfl,funext λi=>by rcases i with _|_|i<;>rfl,rfl,rfl⟩
theorem jqc {m n m' n':Nat}:(PTag.ca m n).like (.ca m' n'):=⟨rfl,λ_=>rfl,funext λi=>by rcases i with _|_|i<;>rfl,rfl,rfl⟩
theorem jne {m n n':Nat}:(PTag.ca m n).like (.cb n'):=⟨rfl,λ_=>rfl,funext λi=>by rcases i with _|_|i<;>rfl,rfl,rfl⟩
theorem jnf {m n n':Nat}:(PTag.ca m n).like (.cc n'):=⟨rfl,λ_=>rfl,funext λi=>by rcases i with _|_|i<;>rfl,rfl,rfl⟩
theorem jvd {m n:Nat}:(PTag.cb m).like (.cb n):=⟨rfl,λ_=>rfl,funext λi=>by rcases i with _|_|i<;>rfl,rfl,rfl⟩
theorem jve {m n:Nat}:(PTag.cc m).like (.cc n):=⟨rfl,λ_=>rfl,funext λi=>by rcases i with _|_|i<;>rfl,rfl,rfl⟩
theorem j95 {m n n':Nat}:(PTag.cb m).like (.da n n'):=⟨rfl,λ_=>rfl,funext λi=>by rcases i with _|_|i<;>rfl,rfl,rfl⟩
theorem j96 {m n n':Nat}:(PTag.cc m).like (.da n n'):=⟨rfl,λ_=>rfl,funext λi=>by rcases i with _|_|i<;>rfl,rfl,rfl⟩
theorem jqd {m n m' n':Nat}:(PTag.da m n).like (.da m' n'):=⟨rfl,λ_=>rfl,funext λi=>by rcases i with _|_|i<;>rfl,rfl,rfl⟩
theorem jng {m n n':Nat}:(PTag.da m n).like (.db n'):=⟨rfl,λ_=>rfl,funext λi=>by rcases i with _|_|i<;>rfl,rfl,rfl⟩
theorem jvf {m n:Nat}:(PTag.db m).like (.db n):=⟨rfl,λ_=>rfl,funext λi=>by rcases i with _|_|i<;>rfl,rfl,rfl⟩
theorem jvg {d:WD}{m n:Nat}:(PTag.ea d m).like (.ea d n):=⟨rfl,λ_=>rfl,funext λi=>by rcases i with _|_|i<;>rfl,rfl,rfl⟩
section
variable {P:Program}{ty:TypeId}{N B:Nat}{w0:World}{Fin:World->Prop}{v vs vr:Value}{AnchW Out:Goroutine->World->Prop}{Shun:Loc->Prop}{n0 T0:Nat}
 {tag:MTag}{f f' d0:Nat}{p p':PTag}{q:Nat->Nat}{gs gs':Array Goroutine}{w w':World}{t u:Trace}{st sm st' sm':Int}{a a' g g' child:Goroutine}{es:Array Event}{sl:Option (Nat×Nat)}{i k:Nat}{fn:FuncId}{pos:String}
theorem RS.chan (hA:Aside (N+2) w w'):RS ty N w w':=
 ⟨hA.tape,hA.os,hA.output,λb _ h _ _=>hA.block b h,λ⟨st,sm,h⟩=>⟨st,sm,(hA.block _ (by omega)).trans h⟩⟩
theorem RR.chan (hA:Aside (N+2) w w'):RR ty N w w':=
 ⟨hA.tape,hA.os,hA.output,hA.size,λb h _=>hA.block b h,λ⟨st,sm,h⟩=>⟨st,sm,(hA.block _ (by omega)).trans h⟩⟩
theorem rl7 {a:Addr}{k s:Nat}(h:s=7):Rl a T0 t k s:=by intro h6;omega
theorem jhe {B s r c:Nat}{fn fn':FuncId}{pos pos':String}(hc:c<B):∀op∈(#[{ g:=s,fn:=fn,pos:=pos,act:=.send c 0 },{ g:=r,fn:=fn',pos:=pos',act:=.recv c 0 0 },{ g:=s,fn:=fn,pos:=pos,act:=.sendDone c 0 },{ g:=r,fn:=fn',pos:=pos',act:=.recvDone c 0 }]:Trace),CommAct B s r op:=by
 intro op hop;simp only[List.mem_toArray,List.mem_cons,List.not_mem_nil,or_false]at hop;rcases hop with rfl|rfl|rfl|rfl
 ·exact⟨.inl rfl,rfl,hc,λm=>by simp⟩
 ·exact⟨.inr rfl,rfl,hc,λm=>by simp⟩
 ·exact⟨.inl rfl,rfl,hc,λm=>by simp⟩
 ·exact⟨.inr rfl,rfl,hc,λm=>by simp⟩
theorem okClose (hB:N+8<=B):∀op∈MemOp.ofEvents n0 fn pos (closeEvents (N+2)),OkPk (stA (N+7)) (shG N) (ownG N n0 (n0+1)) (rdG N n0 (n0+1)) B n0 op:=by
 intro op hop;obtain⟨e,he,rfl⟩:=Go.Conc.mem_ofEvents hop;simp only[closeEvents,List.mem_toArray,List.mem_cons,List.not_mem_nil,or_false]at he;have hlt:N+2<B:=by omega
 rcases he with rfl|rfl
 ·exact⟨rfl,λx hx=>by cases hx;exact .inr (.inl (.inl ⟨rfl,.inr rfl⟩)),hlt,λe=>by cases e⟩
 ·exact⟨rfl,λx hx=>(by cases hx),hlt,λe=>by cases e⟩
theorem cleanClose {c:Nat}:∀e∈closeEvents c,e.loc≠.mark .disable/\e.loc≠.mark .enable:=by
 intro e he;simp only[closeEvents,List.mem_toArray,List.mem_cons,List.not_mem_nil,or_false]at he;rcases he with rfl|rfl<;>exact⟨by simp,by simp⟩
theorem j3t (w:World)(c cap:Nat)(buf:Array Value)(cl:Bool)(s r:Nat)(tm:Bool):Aside c w (w.setChan c cap buf cl s r tm):=Aside.put c w _
theorem j5h {c:Nat}{o:Obj}(h:w.heap[c]?=some o):c<w.heap.size:=by
 rcases Nat.lt_or_ge c w.heap.size with h'|h'
 ·exact h'
 ·rw[Array.getElem?_eq_none h']at h;cases h
theorem Keep.chan (h:Keep N w0 w)(hA:Aside (N+2) w w'):Keep N w0 w':=
 ⟨hA.tape.trans h.tape,hA.os.trans h.os,hA.output.trans h.output,by rw[hA.size];exact h.size,λb h1 h2 h3 h4=>(hA.block b h2).trans (h.block b h1 h2 h3 h4)⟩
theorem jjy {x:Goroutine}(h:x.status=.running)(r:Nat)(b:Bool):offersAt x r b=[]:=offersAt_of_not_blocked (by rw[h];simp) r b
theorem Co.stepS (hB:N+8<=B)(hS:∀l,Shun l->∃a,l=.cell a/\a.block<N)(hAr:∀g w,AnchW g w->g.status=.running)(hOr:∀g w,Out g w->g.status=.running)(h:(Co P ty N B w0 Fin v vs vr AnchW Out Shun n0 T0) tag f d0 p q gs w t st sm)
  (hg:gs[n0]?=some g)(hrun:g.status=.running)(hp:∀d m,p≠.ea d m)(hp':∀d e,p≠.fa d e):(Moves P ty N B w0 Fin v vs vr AnchW Out Shun n0 T0) (tag.rank (Vc 2 p.d)+p.rank,f+2*(p.fuel+sumTo n0 q)) gs w sl t n0:=by
 have hpr:=h.pr;have hpos:=h.pos;have hdk:Deaf t n0=0:=by rw[h.deafS];cases p<;>first|rfl|exact absurd rfl (hp _ _)|exact absurd rfl (hp' _ _)
 have hi0:(n0==0)=false:=by simp;omega
 rw[hg]at hpr;generalize hb:gs[n0+1]?=b at hpr;cases hpr with
 | sa hk hG=>
  have hout:=h.notOut (i:=0) (by omega) (by simp[PTag.d]);unfold ToSend at hG;rcases Goes.cases hG with hstop|⟨m',rfl,hstep⟩
  ·obtain⟨_,ho,z,es,hst,hes,m',hcl⟩:=hstop w (RS.refl' w);refine h.waits (p':=.sb) hS (.inl rfl) (by simp[PTag.kids]) hg hst (λcc hcc=>?_) jnh rfl (by simp) hout hdk (cleanS hes) (ja2 hes) ?_ ⟨rfl,rfl⟩ (by simp[PTag.rank])
   ·simp at hcc;subst hcc;exact ways_send_none h.chan (by simp) (h.partS hAr hOr λx hx=>by rw[hb]at hx;cases hx)
   ·simpa[hb]using PAt.sb (z:=z) hk hcl
  ·obtain⟨g',w',es,hgo,⟨rfl,hev⟩,hg'⟩:=hstep w (RS.refl' w);exact h.idle (p':=.sa m') hS hAr hOr (.inl rfl) (by simp[PTag.kids]) hg hgo jvh rfl (by simp) hout hdk (cleanS hev) (ja2 hev) (by simpa[hb]using PAt.sa hk hg') (RM.refl' _) h.keep rfl rfl (rl7 rfl) (rl7 rfl) rfl (by simp[PTag.fuel])
 | sb hk hG=>simp[parked]at hrun
 | ca hG hR=>
  rename_i m n h'
  have hout:=h.notOut (i:=0) (by omega) (by simp[PTag.d]);unfold ToSend at hG;rcases Goes.cases hG with hstop|⟨m',rfl,hstep⟩
  ·obtain⟨_,ho,z,es,hst,hes,m',hcl⟩:=hstop w (RS.refl' w);refine h.waits (p':=.cb n) hS (.inl rfl) (by simp[PTag.kids]) hg hst (λcc hcc=>?_) jne rfl (by simp) hout hdk (cleanS hes) (ja2 hes) ?_ ⟨rfl,rfl⟩ (by simp[PTag.rank])
   ·simp at hcc;subst hcc;refine ways_send_none h.chan (by simp) (h.partS hAr hOr λx hx=>?_);rw[hb]at hx;cases hx;unfold ToRecv at hR;exact jjy (Goes.running (λ_ _ x=>x.1) w (RR.refl' w) hR) _ _
   ·simpa[hb]using PAt.cb (z:=z) hcl hR
  ·obtain⟨g',w',es,hgo,⟨rfl,hev⟩,hg'⟩:=hstep w (RS.refl' w);exact h.idle (p':=.ca m' n) hS hAr hOr (.inl rfl) (by simp[PTag.kids]) hg hgo jqc rfl (by simp) hout hdk (cleanS hev) (ja2 hev) (by simpa[hb]using PAt.ca hg' hR) (RM.refl' _) h.keep rfl rfl (rl7 rfl) (rl7 rfl) rfl (by simp[PTag.fuel];omega)
 | cb hG hR=>simp[parked]at hrun
 | cc hG hR=>
  rename_i m n gr z'
  have hout:=h.notOut (i:=0) (by omega) (by simp[PTag.d]);unfold ToSend at hG;rcases Goes.cases hG with hstop|⟨m',rfl,hstep⟩
  ·obtain⟨_,ho,z,es,hst,hes,m',hcl⟩:=hstop w (RS.refl' w);have hpart:partners (gs.setIfInBounds n0 ph) (N+2) false=[(n0+1,0)]:=by
    rw[partners_one (stand_get (i:=n0) (j:=n0+1) (by omega) hb) (λk x hk hx=>?_),offersAt_parked_recv]
    ·simp
    ·rcases getElem?_stand _ _ _ _ hx with⟨_,rfl⟩|⟨hj,hx'⟩
     ·exact offersAt_ph _ _
     ·exact h.offers hAr hOr hx' hj hk _ _
   have hrT:=crowd_send_meets (P:=P) (sl:=sl) (i:=n0) (j:=n0+1) hg (by rw[hi0];exact hst) h.chan (by omega) hb hpart;rw[finishComm_send,finishComm_recv]at hrT;have hA:=j3t w (N+2) 0 #[] false (0+1) (0+1) false;have hsz:n0+1<gs.size:=(Array.getElem?_eq_some_iff.1 hb).1;have hacts:=jhe (B:=B) (s:=n0) (r:=n0+1) (c:=N+2) (fn:=g.frame.fn) (fn':=gr.frame.fn) (pos:=g.frame.place) (pos':=gr.frame.place) (by omega);refine⟨_,_,_,hrT,?_,_,_,sl,tag,f,d0,.da m' n,q,st,sm,rfl,?_,rfl⟩
   ·have e:(PTag.da m' n).d=(PTag.cc m).d:=j96.d;rw[e];exact Prod.Lex.left _ _ (by simp[PTag.rank])
   ·refine h.comm (p':=.da m' n) (by simp) (λj h1 h2=>?_) rfl rfl ?_ hA (heap_setChan w _ _ _ _ _ _ _ (j5h h.chan)) (by
      rw[<- Array.append_assoc];exact PT.appFree (lieG hS) (λop hop=>by rcases(hacts op hop).1 with e|e<;>rw[e];exact .inl rfl;exact .inr rfl) hacts (h.ptk hS (.inl rfl) hdk (cleanS hes) (ja2 hes)))
     (λj=>by rw[<- Array.append_assoc,Go.ConcN.Deaf_still _ _ _ (jfq hacts),j2c (cleanS hes)]) rfl rfl (rl7 rfl) (rl7 rfl) (λi=>by rw[j96.d]) (j80 j96 (by simp) h.fit) hout
    ·rw[Array.getElem?_setIfInBounds_ne (by omega),Array.getElem?_setIfInBounds_ne (by omega)]
    ·rw[Array.getElem?_setIfInBounds_self_of_lt (by simp;omega),Array.getElem?_setIfInBounds_ne (by omega),Array.getElem?_setIfInBounds_self_of_lt hsz];unfold ToClose at hcl;unfold ToRecv2 at hR;exact .da (Goes.rely RS.trans' hcl (RS.chan hA)) (Goes.rely RR.trans' hR (RR.chan hA))
  ·obtain⟨g',w',es,hgo,⟨rfl,hev⟩,hg'⟩:=hstep w (RS.refl' w);exact h.idle (p':=.cc m') hS hAr hOr (.inl rfl) (by simp[PTag.kids]) hg hgo jve rfl (by simp) hout hdk (cleanS hev) (ja2 hev) (by simpa[hb]using PAt.cc hg' hR) (RM.refl' _) h.keep rfl rfl (rl7 rfl) (rl7 rfl) rfl (by simp[PTag.fuel])
 | da hG hR=>
  rename_i m n gr
  have hout:=h.notOut (i:=0) (by omega) (by simp[PTag.d]);unfold ToClose at hG;rcases Goes.cases hG with hstop|⟨m',rfl,hstep⟩
  ·obtain⟨_,hmw,hcl⟩:=hstop w (RS.refl' w);obtain⟨g',hg'r,hgo,m2,hd⟩:=hcl 1 h.chan;have hA:=j3t w (N+2) 0 #[] true 1 1 false;unfold ToRecv2 at hR;have hR':=Goes.rely RR.trans' hR (RR.chan hA);obtain⟨tag',f',gs',hr,htag,hf,hco⟩:=h.stepK (sl:=sl) (k:=n0) (p':=.ea ⟨7,m2,0⟩ n) (st':=st) (sm':=sm) hS hAr hOr (.inl rfl) (by simp[PTag.kids]) hg hgo rfl rfl
    (by rw[if_pos rfl,if_neg (by omega),hb,Option.map_some,woken_running (Goes.running (λ_ _ x=>x.1) _ (RR.refl' _) hR')];exact .ea (.r0 hd) (.walk hR'))
    (λhl=>(RS.chan hA).live hl) (h.keep.chan hA) (heap_setChan w _ _ _ _ _ _ _ (j5h h.chan)) ((hA.block _ (by omega)).trans h.wg) (okClose hB)
    (λ_ _ hi hle _ _=>.inr (.inr (j5f hdk cleanClose hi hle))) (by rw[j2c cleanClose];exact h.deafS) (by rw[j2c cleanClose];exact h.deafR) (rl7 rfl) (rl7 rfl)
    (h.modeSame λi=>by rcases i with _|_|i<;>rfl) (λ_ hf=>by cases ‹MTag›<;>simp[fits,PTag.kids]at hf ⊢) (λe=>absurd e hout)
   refine⟨_,_,_,hr,?_,gs',_,sl,tag',f',d0,_,q,st,sm,rfl,hco,rfl⟩;have e:Vc 2 (PTag.ea ⟨7,m2,0⟩ n).d=Vc 2 (PTag.da m n).d:=rfl;rw[e,j4z htag];exact Prod.Lex.left _ _ (by simp[PTag.rank])
  ·obtain⟨g',w',es,hgo,⟨rfl,hev⟩,hg'⟩:=hstep w (RS.refl' w);exact h.idle (p':=.da m' n) hS hAr hOr (.inl rfl) (by simp[PTag.kids]) hg hgo jqd rfl (by simp) hout hdk (cleanS hev) (ja2 hev) (by simpa[hb]using PAt.da hg' hR) (RM.refl' _) h.keep rfl rfl (rl7 rfl) (rl7 rfl) rfl (by simp[PTag.fuel];omega)
 | db hG hR=>
  rename_i m gr z
  have hout:=h.notOut (i:=0) (by omega) (by simp[PTag.d]);unfold ToClose at hG;rcases Goes.cases hG with hstop|⟨m',rfl,hstep⟩
  ·obtain⟨_,hmw,hcl⟩:=hstop w (RS.refl' w);obtain⟨g',hg'r,hgo,m2,hd⟩:=hcl 1 h.chan;have hA:=j3t w (N+2) 0 #[] true 1 1 false;have hC':=heap_setChan w (N+2) 0 #[] true 1 1 false (j5h h.chan);have hwk:woken P g g' (w.setChan (N+2) 0 #[] true 1 1 false) (parked gr #[rcase (N+2) z] (.recv true))={ parked gr #[rcase (N+2) z] (.recv true)with status:=.running }:=by
    unfold Go.Conc.woken;rw[if_pos (by simp[hmw,hg'r])];exact again_recv_closed hC'
   obtain⟨tag',f',gs',hr,htag,hf,hco⟩:=h.stepK (sl:=sl) (k:=n0) (p':=.ea ⟨7,m2,0⟩ 0) (st':=st) (sm':=sm) hS hAr hOr (.inl rfl) (by simp[PTag.kids]) hg hgo rfl rfl
    (by rw[if_pos rfl,if_neg (by omega),hb,Option.map_some,hwk];exact .ea (.r0 hd) (.again λwz kv=>hR wz (RR.trans' _ _ _ (RR.chan hA) kv)))
    (λhl=>(RS.chan hA).live hl) (h.keep.chan hA) hC' ((hA.block _ (by omega)).trans h.wg) (okClose hB)
    (λ_ _ hi hle _ _=>.inr (.inr (j5f hdk cleanClose hi hle))) (by rw[j2c cleanClose];exact h.deafS) (by rw[j2c cleanClose];exact h.deafR) (rl7 rfl) (rl7 rfl)
    (h.modeSame λi=>by rcases i with _|_|i<;>rfl) (λ_ hf=>by cases ‹MTag›<;>simp[fits,PTag.kids]at hf ⊢) (λe=>absurd e hout)
   refine⟨_,_,_,hr,?_,gs',_,sl,tag',f',d0,_,q,st,sm,rfl,hco,rfl⟩;have e:Vc 2 (PTag.ea ⟨7,m2,0⟩ 0).d=Vc 2 (PTag.db m).d:=rfl;rw[e,j4z htag];exact Prod.Lex.left _ _ (by simp[PTag.rank])
  ·obtain⟨g',w',es,hgo,⟨rfl,hev⟩,hg'⟩:=hstep w (RS.refl' w);exact h.idle (p':=.db m') hS hAr hOr (.inl rfl) (by simp[PTag.kids]) hg hgo jvf rfl (by simp) hout hdk (cleanS hev) (ja2 hev) (by simpa[hb]using PAt.db hg' hR) (RM.refl' _) h.keep rfl rfl (rl7 rfl) (rl7 rfl) rfl (by simp[PTag.fuel])
 | ea _ _=>exact absurd rfl (hp _ _)
 | fa _ _ _=>exact absurd rfl (hp' _ _)
end
end Go.Proofs.Mn
namespace Go.Proofs.Mn
open Go Go.Conc
open Go.ConcN (WSit RW WgLive DWs AtR0 WD CTag Mode Vc cnt upd Ssum Fsum phi isOpen isW3 isFin RelBy sumTo)
open Go.ConcR (KK wgBlock WgAt stA smA rd wr mk Payload DC0 Bk g_of_ofEvents)
variable [Payload]
section
variable {P:Program}{ty:TypeId}{N B:Nat}{w0:World}{Fin:World->Prop}{v vs vr:Value}{AnchW Out:Goroutine->World->Prop}{Shun:Loc->Prop}{n0 T0:Nat}
 {tag:MTag}{f f' d0:Nat}{p p':PTag}{q:Nat->Nat}{gs gs':Array Goroutine}{w w':World}{t u:Trace}{st sm st' sm':Int}{a a' g g' child:Goroutine}{es:Array Event}{sl:Option (Nat×Nat)}{i k:Nat}{fn:FuncId}{pos:String}
theorem DR.rs (h:DR N B w w' es):RS ty N w w':=
 ⟨h.tape,h.os,h.output,λb h1 _ h3 _=>h.block b h1 h3,λ⟨st,sm,hl⟩=>⟨st,sm,(h.block _ (by omega) (by omega)).trans hl⟩⟩
theorem DR.rm (h:DR N B w w' es):RM ty N w w':=λ⟨st,sm,hl⟩=>⟨st,sm,(h.block _ (by omega) (by omega)).trans hl⟩
theorem DR.rw {k:Nat}(h:DR N B w w' es):RW ty (N+7) (N+6) 2 0 k w w':=
 ⟨λb hb=>by omega,λ⟨st,sm,hl⟩=>⟨st,sm,(h.block _ (by omega) (by omega)).trans hl⟩,λ⟨cs,hc,hn⟩=>⟨cs,(h.block _ (by omega) (by omega)).trans hc,hn⟩,Go.ConcN.cell_of_block (h.block _ (by omega) (by omega)) k⟩
theorem Keep.dr (h:Keep N w0 w)(hd:DR N B w w' es):Keep N w0 w':=
 ⟨hd.tape.trans h.tape,hd.os.trans h.os,hd.output.trans h.output,Nat.le_trans h.size hd.size,λb h1 h2 h3 h4=>(hd.block b h1 h3).trans (h.block b h1 h2 h3 h4)⟩
theorem rlOther {k s:Nat}{x:Addr}(h:Rl x T0 t k s)(hk:i≠k):Rl x T0 (t++MemOp.ofEvents i fn pos es) k s:=λh6=>let⟨r,hr,h0⟩:=h h6;⟨r,hr.appOther g_of_ofEvents hk,h0⟩
theorem rlFree {k s a b:Nat}{x:Addr}(h:Rl x T0 t k s)(hu:∀op∈u,CommAct B a b op):Rl x T0 (t++u) k s:=λh6=>let⟨r,hr,h0⟩:=h h6;⟨r,jnz hr hu,h0⟩
theorem j44 {m:Nat}(h:ToSend P ty N B v vs m g w):g.status=.running:=by
 unfold ToSend at h;exact Goes.running (λ_ _ x=>x.1) w (RS.refl' w) h
theorem j4d {m:Nat}(h:ToClose P ty N B vs m g w):g.status=.running:=by
 unfold ToClose at h;exact Goes.running (λ_ _ x=>x.1) w (RS.refl' w) h
theorem Co.closed (hB:N+8<=B)(hS:∀l,Shun l->∃a,l=.cell a/\a.block<N)(hAr:∀g w,AnchW g w->g.status=.running)(hOr:∀g w,Out g w->g.status=.running){d:WD}{n:Nat}(h:(Co P ty N B w0 Fin v vs vr AnchW Out Shun n0 T0) tag f d0 (.ea d n) q gs w t st sm){go gr:Goroutine}(hgo:gs[n0]?=some go)(hws:WS P ty N vs d go w)(hg:gs[n0+1]?=some g)(hoff:offersAt go (N+2) true=[])
  {z:Value}(hst:stepG P false g w=.comm gr #[rcase (N+2) z] true (.recv true) w es)(hes:∀e∈es,EvR N B e)(hF:Fin w){m:Nat}(hd:ToDone P ty N 2 vr m (Go.Conc.served gr (recvd true z false)) w) :
  (Moves P ty N B w0 Fin v vs vr AnchW Out Shun n0 T0) (tag.rank (Vc 2 (PTag.ea d n).d)+(PTag.ea d n).rank,f+2*((PTag.ea d n).fuel+sumTo n0 q)) gs w sl t (n0+1):=by
 have hpos:=h.pos;have hout:=h.notOut (i:=1) (by omega) (by simp[PTag.d]);have hdk:Deaf t (n0+1)=0:=h.deafR;have hi0:(n0+1==0)=false:=by simp
 have hsz:n0+1<gs.size:=(Array.getElem?_eq_some_iff.1 hg).1;have hpart:=h.partR hAr hOr (r:=N+2) (b:=true) (λx hx=>by rw[hgo]at hx;cases hx;exact hoff);have hrT:=crowd_recv_closed (P:=P) (sl:=sl) (i:=n0+1) hg (by rw[hi0];exact hst) h.chan hpart;rw[finishComm_recv]at hrT;have hacts:∀op∈(#[{ g:=n0+1,fn:=gr.frame.fn,pos:=gr.frame.place,act:=.recvClosed (N+2) }]:Trace),CommAct B n0 (n0+1) op:=by
  intro op hop;simp only[List.mem_toArray,List.mem_singleton]at hop;subst hop;exact⟨.inr rfl,rfl,show N+2<B by omega,λm=>by simp⟩
 have hdd:∀i,((PTag.fa d ⟨7,m,0⟩).d i).stage=((PTag.ea d n).d i).stage:=λi=>by rcases i with _|_|i<;>rfl
 refine⟨_,_,_,hrT,?_,_,_,sl,tag,f,d0,.fa d ⟨7,m,0⟩,q,st,sm,rfl,h.comm (p':=.fa d ⟨7,m,0⟩) (by simp) (λj h1 h2=>?_) rfl rfl ?_ (.refl _ w) h.chan (by
      rw[<- Array.append_assoc];exact PT.appFree (lieG hS) (λop hop=>by rcases(hacts op hop).1 with e|e<;>rw[e];exact .inl rfl;exact .inr rfl) hacts (h.ptk hS (.inr rfl) hdk (cleanR hes) (ja1 hes)))
     (λj=>by rw[<- Array.append_assoc,Go.ConcN.Deaf_still _ _ _ (jfq hacts),j2c (cleanR hes)]) rfl rfl (by rw[<- Array.append_assoc];exact rlFree (rlOther h.relS (by omega)) hacts) (rl7 rfl) hdd (by have:=h.fit;cases tag<;>simp[fits,PTag.kids]at this ⊢) hout,rfl⟩
 ·have e:Vc 2 (PTag.fa d ⟨7,m,0⟩).d=Vc 2 (PTag.ea d n).d:=Go.ConcN.sumTo_congr λa _=>by simp only[cnt,hdd]
  rw[e];exact Prod.Lex.left _ _ (by simp[PTag.rank])
 ·rw[Array.getElem?_setIfInBounds_ne (by omega)]
 ·rw[Array.getElem?_setIfInBounds_ne (by omega),Array.getElem?_setIfInBounds_self_of_lt hsz,hgo];exact .fa hws (.r0 hd) hF
theorem Co.stepR (hB:N+8<=B)(hS:∀l,Shun l->∃a,l=.cell a/\a.block<N)(hAr:∀g w,AnchW g w->g.status=.running)(hOr:∀g w,Out g w->g.status=.running)(h:(Co P ty N B w0 Fin v vs vr AnchW Out Shun n0 T0) tag f d0 p q gs w t st sm)
  (hg:gs[n0+1]?=some g)(hrun:g.status=.running)(hp':∀d e,p≠.fa d e):(Moves P ty N B w0 Fin v vs vr AnchW Out Shun n0 T0) (tag.rank (Vc 2 p.d)+p.rank,f+2*(p.fuel+sumTo n0 q)) gs w sl t (n0+1):=by
 have hpr:=h.pr;have hpos:=h.pos;have hdk:Deaf t (n0+1)=0:=by rw[h.deafR];cases p<;>first|rfl|exact absurd rfl (hp' _ _)
 have hi0:(n0+1==0)=false:=by simp
 have hsz:n0+1<gs.size:=(Array.getElem?_eq_some_iff.1 hg).1;rw[hg]at hpr;generalize hb:gs[n0]?=b at hpr;cases hpr with
 | ca hG hR=>
  rename_i m n gs'
  have hout:=h.notOut (i:=0) (by omega) (by simp[PTag.d]);unfold ToRecv at hR;rcases Goes.cases hR with hstop|⟨n',rfl,hstep⟩
  ·obtain⟨_,ho,z,es,hst,hes,m',hcl⟩:=hstop w (RR.refl' w);refine h.waits (p':=.cc m) hS (.inr rfl) (by simp[PTag.kids]) hg hst (λcc hcc=>?_) jnf rfl (by simp) hout hdk (cleanR hes) (ja1 hes) ?_ ⟨rfl,rfl⟩ (by simp[PTag.rank])
   ·simp at hcc;subst hcc;refine ways_recv_none h.chan (h.partR hAr hOr λx hx=>?_);rw[hb]at hx;cases hx;exact jjy (j44 hG) _ _
   ·simpa[hb]using PAt.cc (z:=z) hG hcl
  ·obtain⟨g',w',es,hgo,hD,hg'⟩:=hstep w (RR.refl' w);exact h.idle (p':=.ca m n') hS hAr hOr (.inr rfl) (by simp[PTag.kids]) hg hgo jqc rfl (by simp) hout hdk (cleanR hD.evs) (ja1 hD.evs) (by simpa[hb]using PAt.ca (Goes.rely RS.trans' hG hD.rs) hg') hD.rm (h.keep.dr hD) (hD.block _ (by omega) (by omega)) (hD.block _ (by omega) (by omega)) (rl7 rfl) (rl7 rfl) rfl (by simp[PTag.fuel];omega)
 | cb hG hR=>
  rename_i m n go z'
  have hout:=h.notOut (i:=0) (by omega) (by simp[PTag.d]);unfold ToRecv at hR;rcases Goes.cases hR with hstop|⟨n',rfl,hstep⟩
  ·obtain⟨_,ho,z,es,hst,hes,m',hcl⟩:=hstop w (RR.refl' w);have hpart:partners (gs.setIfInBounds (n0+1) ph) (N+2) true=[(n0,0)]:=by
    rw[partners_one (stand_get (i:=n0+1) (j:=n0) (by omega) hb) (λk x hk hx=>?_),offersAt_parked_send]
    ·simp
    ·rcases getElem?_stand _ _ _ _ hx with⟨_,rfl⟩|⟨hj,hx'⟩
     ·exact offersAt_ph _ _
     ·exact h.offers hAr hOr hx' hk hj _ _
   have hrT:=crowd_recv_meets (P:=P) (sl:=sl) (i:=n0+1) (j:=n0) hg (by rw[hi0];exact hst) h.chan (by omega) hb hpart;rw[finishComm_send,finishComm_recv]at hrT;have hA:=j3t w (N+2) 0 #[] false (0+1) (0+1) false;have hacts:=jhe (B:=B) (s:=n0) (r:=n0+1) (c:=N+2) (fn:=go.frame.fn) (fn':=g.frame.fn) (pos:=go.frame.place) (pos':=g.frame.place) (by omega);refine⟨_,_,_,hrT,?_,_,_,sl,tag,f,d0,.da m m',q,st,sm,rfl,?_,rfl⟩
   ·have e:(PTag.da m m').d=(PTag.cb n).d:=j95.d;rw[e];exact Prod.Lex.left _ _ (by simp[PTag.rank])
   ·refine h.comm (p':=.da m m') (by simp) (λj h1 h2=>?_) rfl rfl ?_ hA (heap_setChan w _ _ _ _ _ _ _ (j5h h.chan)) (by
      rw[<- Array.append_assoc];exact PT.appFree (lieG hS) (λop hop=>by rcases(hacts op hop).1 with e|e<;>rw[e];exact .inl rfl;exact .inr rfl) hacts (h.ptk hS (.inr rfl) hdk (cleanR hes) (ja1 hes)))
     (λj=>by rw[<- Array.append_assoc,Go.ConcN.Deaf_still _ _ _ (jfq hacts),j2c (cleanR hes)]) rfl rfl (rl7 rfl) (rl7 rfl) (λi=>by rw[j95.d]) (j80 j95 (by simp) h.fit) hout
    ·rw[Array.getElem?_setIfInBounds_ne (by omega),Array.getElem?_setIfInBounds_ne (by omega)]
    ·rw[Array.getElem?_setIfInBounds_ne (by omega),Array.getElem?_setIfInBounds_self_of_lt (by omega),Array.getElem?_setIfInBounds_self_of_lt (by simpa using hsz)];unfold ToClose at hG;unfold ToRecv2 at hcl;exact .da (Goes.rely RS.trans' hG (RS.chan hA)) (Goes.rely RR.trans' hcl (RR.chan hA))
  ·obtain⟨g',w',es,hgo,hD,hg'⟩:=hstep w (RR.refl' w);exact h.idle (p':=.cb n') hS hAr hOr (.inr rfl) (by simp[PTag.kids]) hg hgo jvd rfl (by simp) hout hdk (cleanR hD.evs) (ja1 hD.evs) (by simpa[hb]using PAt.cb (z:=z') (Goes.rely RS.trans' hG hD.rs) hg') hD.rm (h.keep.dr hD) (hD.block _ (by omega) (by omega)) (hD.block _ (by omega) (by omega)) (rl7 rfl) (rl7 rfl) rfl (by simp[PTag.fuel])
 | cc hG hR=>simp[parked]at hrun
 | da hG hR=>
  rename_i m n gs'
  have hout:=h.notOut (i:=0) (by omega) (by simp[PTag.d]);unfold ToRecv2 at hR;rcases Goes.cases hR with hstop|⟨n',rfl,hstep⟩
  ·obtain⟨_,ho,_,z,es,hst,hes,m',hcl⟩:=hstop w (RR.refl' w);refine h.waits (p':=.db m) hS (.inr rfl) (by simp[PTag.kids]) hg hst (λcc hcc=>?_) jng rfl (by simp) hout hdk (cleanR hes) (ja1 hes) ?_ ⟨rfl,rfl⟩ (by simp[PTag.rank])
   ·simp at hcc;subst hcc;refine ways_recv_none h.chan (h.partR hAr hOr λx hx=>?_);rw[hb]at hx;cases hx;exact jjy (j4d hG) _ _
   ·simpa[hb]using PAt.db (z:=z) hG hstop
  ·obtain⟨g',w',es,hgo,hD,hg'⟩:=hstep w (RR.refl' w);exact h.idle (p':=.da m n') hS hAr hOr (.inr rfl) (by simp[PTag.kids]) hg hgo jqd rfl (by simp) hout hdk (cleanR hD.evs) (ja1 hD.evs) (by simpa[hb]using PAt.da (Goes.rely RS.trans' hG hD.rs) hg') hD.rm (h.keep.dr hD) (hD.block _ (by omega) (by omega)) (hD.block _ (by omega) (by omega)) (rl7 rfl) (rl7 rfl) rfl (by simp[PTag.fuel];omega)
 | db hG hR=>simp[parked]at hrun
 | ea hG hR=>
  rename_i d n go
  have hout:=h.notOut (i:=1) (by omega) (by simp[PTag.d]);have hoff:offersAt go (N+2) true=[]:=offersAt_of_not_blocked (by rcases hG.status with e|e<;>rw[e]<;>simp) _ _;cases hR with
  | walk hR=>
   unfold ToRecv2 at hR;rcases Goes.cases hR with hstop|⟨n',rfl,hstep⟩
   ·obtain⟨_,ho,hF,z,es,hst,hes,m',hcl⟩:=hstop w (RR.refl' w);exact h.closed hB hS hAr hOr hb hG hg hoff hst hes hF hcl
   ·obtain⟨g',w',es,hgo,hD,hg'⟩:=hstep w (RR.refl' w);exact h.idle (p':=.ea d n') hS hAr hOr (.inr rfl) (by simp[PTag.kids]) hg hgo jvg rfl (by simp) hout hdk (cleanR hD.evs) (ja1 hD.evs) (by simpa[hb]using PAt.ea (hG.rely hD.rw) (.walk hg')) hD.rm (h.keep.dr hD) (hD.block _ (by omega) (by omega)) (hD.block _ (by omega) (by omega)) (rlOther h.relS (by omega)) (rl7 rfl) rfl (by simp[PTag.fuel];omega)
  | again hR=>
   obtain⟨hr0,ho,hF,z,es,hst,hes,m',hcl⟩:=hR w (RR.refl' w);refine h.closed hB hS hAr hOr hb hG hg hoff (z:=z) (es:=es) ?_ hes hF hcl;rw[stepG_tries];rw[<- hst];exact stepG_same rfl rfl rfl w
 | fa _ _ _=>exact absurd rfl (hp' _ _)
end
end Go.Proofs.Mn
namespace Go.Proofs.Mn
open Go Go.Conc
open Go.ConcN (WSit RW WgLive DWs AtR0 WD CTag Vc cnt upd Ssum Fsum phi isOpen isW3 isFin RelBy sumTo EvW AsideCell OpenSt pend)
open Go.ConcR (KK wgBlock WgAt stA smA rd wr mk Payload DC0 Bk g_of_ofEvents)
variable [Payload]
inductive DoneTurn (Wg:Nat)(d d':WD)(w w':World)(es:Array Event):Prop
 | own:d.stage=7->d'.stage=7->w'=w->es=#[]->DoneTurn Wg d d' w w' es
 | said:d.stage=7->d.deaf=0->w'=w->es=#[mk (.releaseMerge (stA Wg))]->DoneTurn Wg d d' w w' es
 | book:d.stage<=6->d'.stage<=6->Aside Wg w w'->(∀e∈es,Bk Wg e)->(∀j e,es[j]?=some e->(MemAct.ofEvent e).touch?=none\/0<deafBehind d.deaf (es.extract 0 j))->DoneTurn Wg d d' w w' es
section
variable {P:Program}{ty:TypeId}{N k:Nat}{val:Value}{d:WD}{g:Goroutine}{w:World}{tag:CTag}{D:Nat->WD}{i:Nat}{st sm:Int}
theorem j4u {j:Nat}{D:Nat->WD}{i:Nat}{d':WD}{tag:CTag}{st sm:Int}(hm:Go.ConcN.Mode j D tag st sm)(h:d'.stage=(D i).stage):Go.ConcN.Mode j (upd D i d') tag st sm:=
 hm.congr λa _=>by
  by_cases e:a=i
  ·subst e;rw[Go.ConcN.upd_same];exact h
  ·rw[Go.ConcN.upd_ne D _ e]
theorem jjt {e:Event}(h:(MemAct.ofEvent e).touch?=none)(d:Nat):∀j x,(#[e]:Array Event)[j]?=some x->(MemAct.ofEvent x).touch?=none\/0<deafBehind d ((#[e]:Array Event).extract 0 j):=λj x hx=>by
 have:=Array.mem_of_getElem? hx;simp at this;subst this;exact .inl h
theorem jky {e:Event}:∀j x,(#[e]:Array Event)[j]?=some x->(MemAct.ofEvent x).touch?=none\/0<deafBehind 1 ((#[e]:Array Event).extract 0 j):=λj x hx=>by
 match j,hx with
 | 0,_=>exact .inr (by simp[deafBehind])
 | j+1,hx=>simp at hx
theorem jsx {a:Addr}:∀j x,(#[rd a,wr a]:Array Event)[j]?=some x->(MemAct.ofEvent x).touch?=none\/0<deafBehind 1 ((#[rd a,wr a]:Array Event).extract 0 j):=λj x hx=>by
 match j,hx with
 | 0,_=>exact .inr (by simp[deafBehind])
 | 1,_=>exact .inr (by simp[deafBehind,rd])
 | j+2,hx=>simp at hx
def DoneStep (P:Program)(ty:TypeId)(N k:Nat)(val:Value)(d:WD)(g:Goroutine)(w:World)(tag:CTag)(D:Nat->WD)(i:Nat):Prop:=
 ∃g' w' es d' st' sm',stepG P false g w=.go g' w' es/\DSit P ty N k val d'.stage d'.fuel d'.deaf g' w'/\WgAt ty (N+7) w' st' sm'/\deafBehind d.deaf es=d'.deaf/\DoneTurn (N+7) d d' w w' es /\
  (∀tag',(tag'=tag\/(tag=.blk/\tag'=.w3))->(mayWake P g=true->g'.status=.running->tag'≠.blk)->Go.ConcN.Mode 2 (upd D i d') tag' st' sm') /\
  ((d'.stage<d.stage/\cnt d'<=cnt d)\/(d'.stage=d.stage/\d'.fuel+1=d.fuel))/\(d'.stage=7->d.stage=7)
theorem jpb (hs:DSit P ty N k val d.stage d.fuel d.deaf g w)(hrun:g.status=.running)(hi:i<2)(hD:D i=d)(hm:Go.ConcN.Mode 2 D tag st sm)(hwg:WgAt ty (N+7) w st sm):DoneStep P ty N k val d g w tag D i:=by
 obtain⟨s,m,dd⟩:=d;simp only at hs;have hst:(D i).stage=s:=by rw[hD]
 cases hs with
 | r0 h=>
  unfold ToDone at h;rcases Goes.cases h with hstop|⟨m',rfl,hstep⟩
  ·obtain⟨_,_,g',hgo,mz,hk⟩:=hstop w (RW.refl w);exact⟨g',w,_,⟨6,mz,0⟩,st,sm,hgo,.rest (by simp) (.k1 hk),hwg,rfl,.said rfl rfl rfl rfl,λtag' ht _=>(hm.counted hi (by omega) (.inl rfl) _ _).retag ht,.inl ⟨by simp,by simp[cnt]⟩,λh=>by simp at h⟩
  ·obtain⟨g',w',es,hgo,⟨rfl,rfl⟩,hg'⟩:=hstep w (RW.refl w);exact⟨g',w',_,⟨7,m',0⟩,st,sm,hgo,.r0 hg',hwg,rfl,.own rfl rfl rfl rfl,
    λtag' ht _=>(j4u hm (by rw[hD])).retag ht,.inr ⟨rfl,rfl⟩,λ_=>rfl⟩
 | rest hs6 hs=>
 have idle:∀{g':Goroutine} {m':Nat},stepG P false g w=.go g' w #[]->WSit P ty (N+7) (N+6) 2 (λ_ _=>False) (λ_ _=>False) 0 k val s m' dd g' w->m'+1=m->DoneStep P ty N k val ⟨s,m,dd⟩ g w tag D i:=by
  intro g' m' hgo hs' hmm;exact⟨g',w,#[],⟨s,m',dd⟩,st,sm,hgo,.rest hs6 hs',hwg,rfl,.book hs6 hs6 (.refl _ w) (by simp) (by simp),λtag' ht _=>(j4u hm (by rw[hD])).retag ht,.inr ⟨rfl,hmm⟩,λh=>h⟩
 cases hs with
 | r0 h=>omega
 | k1 h=>
  rcases Goes.cases h with hstop|⟨m',rfl,hstep⟩
  ·obtain⟨_,g',hgo,mz,hk⟩:=hstop w (RW.refl w);exact⟨g',w,_,⟨5,mz,1⟩,st,sm,hgo,.rest (by simp) (.d1 hk),hwg,rfl,.book (by simp) (by simp) (.refl _ w) (by intro e he;simp at he;subst he;exact .inl rfl) (jjt rfl _),
    λtag' ht _=>(hm.counted hi (by omega) (.inr rfl) _ _).retag ht,.inl ⟨by simp,by simp[cnt]⟩,λh=>by simp at h⟩
  ·obtain⟨g',w',es,hgo,⟨rfl,rfl⟩,hg'⟩:=hstep w (RW.refl w);exact idle hgo (.k1 hg') rfl
 | d1 h=>
  rcases Goes.cases h with hstop|⟨m',rfl,hstep⟩
  ·obtain⟨_,hall⟩:=hstop w (RW.refl w);have hc1:cnt (D i)=1:=by simp[cnt,hst]
   have hVj:=Go.ConcN.Vc_le 2 D;have hV1:1<=Vc 2 D:=by have:=Go.ConcN.le_sumTo (f:=λx=>cnt (D x)) hi;simp only[Vc];omega
   have hq0:∀q,cnt (⟨1,q,1⟩:WD)=0:=λ_=>rfl;have opq:∀q,OpenSt 2 D->OpenSt 2 (upd D i ⟨1,q,1⟩):=λq h a ha=>by
    by_cases e:a=i
    ·subst e;rw[Go.ConcN.upd_same];simp
    ·rw[Go.ConcN.upd_ne D _ e];exact h a ha
   have bk2:∀e∈#[rd (stA (N+7)),wr (stA (N+7))],Bk (N+7) e:=by intro e he;simp at he;rcases he with rfl|rfl<;>exact Go.ConcN.bk_cell _ _ rfl
   have fin:∀{g':Goroutine} {s' m':Nat} {z st' sm':Int},stepG P false g w=.go g' (w.setCell (stA (N+7)) (.int .u64 z)) #[rd (stA (N+7)),wr (stA (N+7))]->WSit P ty (N+7) (N+6) 2 (λ_ _=>False) (λ_ _=>False) 0 k val s' m' 1 g' (w.setCell (stA (N+7)) (.int .u64 z)) ->
     WgAt ty (N+7) (w.setCell (stA (N+7)) (.int .u64 z)) st' sm'->Go.ConcN.Mode 2 (upd D i ⟨s',m',1⟩) tag st' sm'->s'<5->DoneStep P ty N k val ⟨5,m,1⟩ g w tag D i:=by
    intro g' s' m' z st' sm' h1 h2 h3 h4 h5;exact⟨g',_,_,⟨s',m',1⟩,st',sm',h1,.rest (by simp;omega) h2,h3,rfl,.book (by simp) (by simp;omega) (aside_setCell w (stA (N+7)) _) bk2 jsx,λtag' ht _=>h4.retag ht,.inl ⟨h5,by simp only[cnt];split<;>split<;>omega⟩,λh=>by simp only at h;omega⟩
   cases hm with
   | opn h1 h2 h3=>
    obtain⟨v,hv⟩:∃v,Vc 2 D+pend tag=v+1:=⟨Vc 2 D+pend tag-1,by omega⟩;have hp1:pend tag<=1:=by cases tag<;>simp only[pend]<;>(try split)<;>omega
    rw[hv]at hwg;have hw1:WgAt ty (N+7) w (((v:Nat)+1)*KK+((0:Nat):Int)) 0:=by simpa using hwg
    obtain⟨g',hgo,_,hq⟩:=hall v 0 (by omega) (by omega) hw1;obtain⟨q,hq⟩:=hq (by omega);have hv':Vc 2 (upd D i ⟨1,q,1⟩)+pend tag=v:=by have:=Go.ConcN.Vc_upd D (⟨1,q,1⟩:WD) hi;have:=hq0 q;omega
    refine fin hgo (.quit hq) (hwg.setSt _) ?_ (by omega);have e:((v:Nat):Int)*KK+((0:Nat):Int)=((Vc 2 (upd D i ⟨1,q,1⟩)+pend tag:Nat):Int)*KK:=by rw[hv'];simp
    rw[e];exact .opn h1 (opq q h2) (λvs ev=>by have:=h3 vs ev;omega)
   | reg h1 h2 h3=>
    obtain⟨v,hv⟩:∃v,Vc 2 D=v+1:=⟨Vc 2 D-1,by omega⟩;rw[hv]at hwg;have hp:pend tag=0:=by cases tag<;>first|rfl|exact h1.elim
    have hw1:WgAt ty (N+7) w (((v:Nat)+1)*KK+((1:Nat):Int)) 0:=by simpa using hwg
    obtain⟨g',hgo,hl,hq⟩:=hall v 1 (by omega) (by omega) hw1;by_cases hv0:v=0
    ·subst hv0;obtain⟨mz,hk⟩:=hl ⟨rfl,rfl⟩;refine fin hgo (.d2 hk) (hwg.setSt _) ?_ (by omega);have hoth:∀a,a<2->a≠i->(D a).stage=1:=λa ha e=>by
      have c0:=Go.ConcN.others_uncounted hi hv hc1 a ha e;have:=h2 a ha;simp only[cnt]at c0;split at c0<;>omega
     have:=Go.ConcN.Mode.last (j:=2) (D:=upd D i ⟨4,mz,1⟩) (tag:=tag) i h1 hi (by rw[Go.ConcN.upd_same];simp) (λa ha e=>by rw[Go.ConcN.upd_ne D _ e];exact hoth a ha e);rw[Go.ConcN.upd_same]at this;simpa using this
    ·obtain⟨q,hq⟩:=hq (by omega);have hv':Vc 2 (upd D i ⟨1,q,1⟩)=v:=by have:=Go.ConcN.Vc_upd D (⟨1,q,1⟩:WD) hi;have:=hq0 q;omega
     refine fin hgo (.quit hq) (hwg.setSt _) ?_ (by omega);have e:((v:Nat):Int)*KK+((1:Nat):Int)=((Vc 2 (upd D i ⟨1,q,1⟩):Nat):Int)*KK+1:=by rw[hv'];simp
     rw[e];exact .reg h1 (opq q h2) (by omega)
   | last L _ h2 h3 h4=>
    by_cases e:i=L
    ·subst e;omega
    ·have:=h4 i hi e;omega
   | sema h2=>have:=h2 i hi;omega
   | fin _ h2=>have:=h2 i hi;omega
  ·obtain⟨g',w',es,hgo,⟨rfl,rfl⟩,hg'⟩:=hstep w (RW.refl w);exact idle hgo (.d1 hg') rfl
 | d2 h=>
  rcases Goes.cases h with hstop|⟨m',rfl,hstep⟩
  ·obtain⟨_,hx⟩:=hstop w (RW.refl w);obtain⟨hW3,hoth,rfl,rfl⟩:=hm.isLast hi (by omega);simp only[hst]at hwg;obtain⟨g',hgo,mz,hk⟩:=hx (by simpa using hwg);refine⟨g',w,_,⟨3,mz,1⟩,_,_,hgo,.rest (by simp) (.d3 hk),hwg,rfl,.book (by simp) (by simp) (.refl _ w) (by intro e he;simp at he;subst he;exact Go.ConcN.bk_cell _ _ rfl) jky,λtag' ht _=>Go.ConcN.Mode.retag ?_ ht,.inl ⟨by simp,by simp[cnt]⟩,λh=>by simp at h⟩;have:=Go.ConcN.Mode.last (j:=2) (D:=upd D i ⟨3,mz,1⟩) (tag:=tag) i hW3 hi (by rw[Go.ConcN.upd_same];simp) (λa ha e=>by rw[Go.ConcN.upd_ne D _ e];exact hoth a ha e);rw[Go.ConcN.upd_same]at this;simpa using this
  ·obtain⟨g',w',es,hgo,⟨rfl,rfl⟩,hg'⟩:=hstep w (RW.refl w);exact idle hgo (.d2 hg') rfl
 | d3 h=>
  rcases Goes.cases h with hstop|⟨m',rfl,hstep⟩
  ·obtain⟨_,hx⟩:=hstop w (RW.refl w);obtain⟨hW3,hoth,rfl,rfl⟩:=hm.isLast hi (by omega);simp only[hst]at hwg;obtain⟨g',hgo,mz,hk⟩:=hx (by simpa using hwg);refine⟨g',_,_,⟨2,mz,1⟩,_,_,hgo,.rest (by simp) (.d4 hk),hwg.setSt 0,rfl,.book (by simp) (by simp) (aside_setCell w (stA (N+7)) _) (by intro e he;simp at he;subst he;exact Go.ConcN.bk_cell _ _ rfl) jky,λtag' ht _=>Go.ConcN.Mode.retag ?_ ht,.inl ⟨by simp,by simp[cnt]⟩,λh=>by simp at h⟩;have:=Go.ConcN.Mode.last (j:=2) (D:=upd D i ⟨2,mz,1⟩) (tag:=tag) i hW3 hi (by rw[Go.ConcN.upd_same];simp) (λa ha e=>by rw[Go.ConcN.upd_ne D _ e];exact hoth a ha e);rw[Go.ConcN.upd_same]at this;simpa using this
  ·obtain⟨g',w',es,hgo,⟨rfl,rfl⟩,hg'⟩:=hstep w (RW.refl w);exact idle hgo (.d3 hg') rfl
 | d4 h=>
  rcases Goes.cases h with hstop|⟨m',rfl,hstep⟩
  ·obtain⟨_,hmw,hx⟩:=hstop w (RW.refl w);obtain⟨hW3,hoth,rfl,rfl⟩:=hm.isLast hi (by omega);simp only[hst]at hwg;obtain⟨g',hgo,q,hq⟩:=hx (by simpa using hwg);have hrun':g'.status=.running:=by
    cases q with
    | zero=>exact absurd hq.2 (by decide)
    | succ q=>exact hq.elim (λx=>absurd x.2 (by decide)) (λx=>x.1)
   refine⟨g',_,_,⟨1,q,1⟩,_,_,hgo,.rest (by simp) (.quit hq),hwg.setSm 1,by simp[deafBehind,semEvents],.book (by simp) (by simp) (aside_setCell w (smA (N+7)) _) ?_ ?_,λtag' ht hw=>?_,.inl ⟨by simp,by simp[cnt]⟩,λh=>by simp at h⟩
   ·intro e he;simp[semEvents]at he;rcases he with rfl|rfl|rfl|rfl
    ·exact .inl rfl
    ·exact Go.ConcN.bk_cell _ _ rfl
    ·exact Go.ConcN.bk_cell _ _ rfl
    ·exact .inr (.inl rfl)
   ·intro jx e he
    match jx,he with
    | 0,he=>simp[semEvents]at he;subst he;exact .inl rfl
    | 1,_=>exact .inr (by simp[deafBehind,semEvents])
    | 2,_=>exact .inr (by simp[deafBehind,semEvents])
    | 3,he=>simp[semEvents]at he;subst he;exact .inl rfl
    | jx+4,he=>simp[semEvents]at he
   ·have hnb:=hw hmw hrun';have e3:tag'=.w3:=by
     rcases ht with rfl|⟨_,rfl⟩
     ·cases tag'<;>first|rfl|exact hW3.elim|exact absurd rfl hnb
     ·rfl
    subst e3;simp only[if_true];exact .sema λa ha=>by
     by_cases e:a=i
     ·subst e;rw[Go.ConcN.upd_same]
     ·rw[Go.ConcN.upd_ne D _ e];exact hoth a ha e
  ·obtain⟨g',w',es,hgo,⟨rfl,rfl⟩,hg'⟩:=hstep w (RW.refl w);exact idle hgo (.d4 hg') rfl
 | quit h=>
  cases m with
  | zero=>rw[h.1]at hrun;cases hrun
  | succ q=>
   rcases h with⟨hf,_⟩|⟨_,g',es,hmute,hstep,hq⟩
   ·rw[hf]at hrun;cases hrun
   ·refine⟨g',w,es,⟨1,q,deafBehind dd es⟩,st,sm,hstep w,.rest (by simp) (.quit hq),hwg,rfl,.book (by simp) (by simp) (.refl _ w) (λe he=>Go.ConcR.bk_of_mute (hmute e he)) (λjx e he=>.inl (touch_mute (hmute e (Array.mem_of_getElem? he)))),λtag' ht _=>(j4u hm (by rw[hD])).retag ht,.inr ⟨rfl,rfl⟩,λh=>h⟩
end
end Go.Proofs.Mn
namespace Go.Proofs.Mn
open Go Go.Conc
open Go.ConcN (WSit RW WgLive DWs AtR0 WD CTag Vc cnt upd Ssum Fsum phi isOpen isW3 isFin RelBy sumTo)
open Go.ConcR (KK wgBlock WgAt stA smA rd wr mk Payload DC0 Bk g_of_ofEvents)
variable [Payload]
section
variable {P:Program}{ty:TypeId}{N B:Nat}{w0:World}{Fin:World->Prop}{v vs vr:Value}{AnchW Out:Goroutine->World->Prop}{Shun:Loc->Prop}{n0 T0:Nat}
 {tag:MTag}{f f' d0:Nat}{p p':PTag}{q:Nat->Nat}{gs gs':Array Goroutine}{w w':World}{t u:Trace}{st sm st' sm':Int}{a a' g g' child:Goroutine}{es:Array Event}{sl:Option (Nat×Nat)}{i k:Nat}{fn:FuncId}{pos:String}
theorem DoneTurn.aside {Wg:Nat}{d d':WD}(h:DoneTurn Wg d d' w w' es):Aside Wg w w':=by
 cases h with
 | own _ _ h _=>rw[h];exact .refl _ w
 | said _ _ h _=>rw[h];exact .refl _ w
 | book _ _ h _ _=>exact h
theorem jer {Wg:Nat}{e:Event}(h:Bk Wg e){x:Touch}(hx:(MemAct.ofEvent e).touch?=some x):(∃a,x.loc=.cell a/\a.block=Wg)/\x.kind=.atomic:=by
 rcases h with h|h|⟨a,wr,rfl,hb⟩
 ·rw[Go.ConcR.ofEvent_loc_mark h]at hx;cases hx
 ·rw[Go.ConcR.ofEvent_loc_mark h]at hx;cases hx
 ·cases wr<;>(cases hx;exact⟨⟨a,rfl,hb⟩,rfl⟩)
theorem jug {Wg B:Nat}{e:Event}(h:Bk Wg e)(hB:Wg<B):(MemAct.ofEvent e).low B/\∀a,MemAct.ofEvent e≠.mark (.release a):=by
 rcases h with h|h|⟨a,wr,rfl,hb⟩
 ·rw[Go.ConcR.ofEvent_loc_mark h];exact⟨trivial,λa e=>by cases e⟩
 ·rw[Go.ConcR.ofEvent_loc_mark h];exact⟨trivial,λa e=>by cases e⟩
 ·cases wr<;>exact⟨show a.block<B by omega,λa e=>by cases e⟩
theorem DoneTurn.ok {d d':WD}(h:DoneTurn (N+7) d d' w w' es)(hB:N+8<=B) :
  ∀op∈MemOp.ofEvents k fn pos es,OkPk (stA (N+7)) (shG N) (ownG N n0 (n0+1)) (rdG N n0 (n0+1)) B k op/\∀x,op.act.touch?=some x->shG N x.loc/\x.kind=.atomic:=by
 intro op hop;obtain⟨e,he,rfl⟩:=Go.Conc.mem_ofEvents hop;cases h with
 | own _ _ _ h=>subst h;simp at he
 | said _ _ _ h=>
  subst h;simp only[List.mem_toArray,List.mem_singleton]at he;subst he;exact⟨⟨rfl,λx hx=>(by cases hx),show N+7<B by omega,λe=>(by cases e)⟩,λx hx=>(by cases hx)⟩
 | book _ _ _ hb _=>
  have h1:=jug (hb e he) (B:=B) (by omega);have h2:∀x,(MemAct.ofEvent e).touch?=some x->shG N x.loc/\x.kind=.atomic:=λx hx=>jer (hb e he) hx;exact⟨⟨rfl,λx hx=>.inl (h2 x hx),h1.1,h1.2 _⟩,h2⟩
theorem DoneTurn.rel {d d':WD}(h:DoneTurn (N+7) d d' w w' es)(hk:Deaf t k=d.deaf)(h0:T0<=t.size)(hr:Rl (stA (N+7)) T0 t k d.stage):Rl (stA (N+7)) T0 (t++MemOp.ofEvents k fn pos es) k d'.stage:=by
 intro h6;cases h with
 | own _ h7 _ _=>omega
 | said _ hd _ h=>subst h;exact⟨t.size,Go.ConcN.RelBy.new (hk.trans hd) _ _,h0⟩
 | book h6' _ _ hb hno=>
  obtain⟨r,hr',h0'⟩:=hr h6';exact⟨r,hr'.book hk _ _ hb hno,h0'⟩
theorem jyc {tag:MTag}(h:tag.c=.blk):tag=.blk:=by cases tag<;>first|rfl|cases h
theorem jv1 {tag tag':MTag}(e:tag'=tag\/(tag=.blk/\tag'=.w3)):tag'.c=tag.c\/(tag.c=.blk/\tag'.c=.w3):=by
 rcases e with rfl|⟨rfl,rfl⟩
 ·exact .inl rfl
 ·exact .inr ⟨rfl,rfl⟩
structure Puts (n0 i:Nat)(p:PTag)(d':WD)(p':PTag):Prop where
 d:p'.d=upd p.d i d'
 kids:p'.kids=2
 started:p'.started n0=p.started n0
 chan:p'.chan=p.chan
 ds:p'.ds=if i=0 then d'.deaf else p.ds
 dr:p'.dr=if i=1 then d'.deaf else p.dr
 rank:p'.rank+(p.d i).stage=p.rank+d'.stage
 fuel:p'.fuel+(p.d i).fuel=p.fuel+d'.fuel
theorem Co.inDone (hB:N+8<=B)(hS:∀l,Shun l->∃a,l=.cell a/\a.block<N)(hAr:∀g w,AnchW g w->g.status=.running)(hOr:∀g w,Out g w->g.status=.running)(h:(Co P ty N B w0 Fin v vs vr AnchW Out Shun n0 T0) tag f d0 p q gs w t st sm)
  (hi:i<2)(hg:gs[n0+i]?=some g)(hrun:g.status=.running){val:Value}(hs:DSit P ty N (i+1) val (p.d i).stage (p.d i).fuel (p.d i).deaf g w)
  (hkids:p.kids=2)(hdf:Deaf t (n0+i)=(p.d i).deaf)(put:WD->PTag)(hput:∀d',Puts n0 i p d' (put d'))
  (hpr:∀d' g' w',Aside (N+7) w w'->WgLive ty (N+7) w'->DSit P ty N (i+1) val d'.stage d'.fuel d'.deaf g' w'->PAt P ty N B w0 Fin v vs vr (put d') (if i=0 then some g' else gs[n0]?) (if i=1 then some g' else gs[n0+1]?) w') :
  (Moves P ty N B w0 Fin v vs vr AnchW Out Shun n0 T0) (tag.rank (Vc 2 p.d)+p.rank,f+2*(p.fuel+sumTo n0 q)) gs w sl t (n0+i):=by
 have hpos:=h.pos;have hpn:p≠.none:=by rintro rfl;cases hkids
 have hk0:tag≠.kd0:=by rintro rfl;exact hpn h.fit
 have hk1:tag≠.a0:=by rintro rfl;exact hpn h.fit
 have hm:=h.mode.2 hk0 hk1;obtain⟨g',w',es,d',st',sm',hgo,hs',hwg',hdd,hturn,hmode,hlt,_⟩:=jpb hs hrun hi rfl hm h.wg;have hP:=hput d';have hA:=hturn.aside;have hok:=hturn.ok (k:=n0+i) (fn:=g.frame.fn) (pos:=g.frame.place) (n0:=n0) hB;have hch:w'.heap[N+2]?=some (put d').chan:=by rw[hP.chan];exact(hA.block _ (by omega)).trans h.chan
 have hpr':=hpr d' g' w' hA ⟨_,_,hwg'⟩ hs';obtain⟨x1,x2⟩:=hpr'.wokenBy hch g g';have hpr2:PAt P ty N B w0 Fin v vs vr (put d') (if n0+i=n0 then some g' else(gs[n0]?).map (woken P g g' w')) (if n0+i=n0+1 then some g' else(gs[n0+1]?).map (woken P g g' w')) w':=by
  rcases(by omega:i=0\/i=1)with rfl|rfl
  ·simp only[if_pos,if_neg,Nat.add_zero,Nat.zero_ne_one,↓reduceIte]at hpr' x1 x2 ⊢;rw[if_neg (by omega),x2];exact hpr'
  ·simp only[Nat.one_ne_zero,↓reduceIte]at hpr' x1 x2 ⊢;rw[if_neg (by omega),x1];exact hpr'
 have hfit:∀tag',fits tag' p->fits tag' (put d'):=λtag' hf=>by
  cases tag'<;>simp only[fits]at hf ⊢<;>first|exact absurd hf hpn|(have:=hP.kids;omega)
 obtain⟨tag',f',gs',hr,htag,hf,hco⟩:=h.stepK (sl:=sl) (k:=n0+i) (p':=put d') (st':=st') (sm':=sm') hS hAr hOr (by omega) (by omega) hg hgo (by rw[hP.kids,hkids]) hP.started hpr2
  (λ_=>⟨_,_,hwg'⟩) (h.keep.turn hA) hch hwg' (λop hop=>(hok op hop).1)
  (λj op hj hle x hx=>by
   rcases getElem?_append_cases hj with⟨hlt,_⟩|⟨_,hm⟩
   ·omega
   ·exact .inl ((hok op hm).2 x hx))
  (by
   rw[hP.ds];split
   ·rename_i e;subst e;rw[Nat.add_zero]at hdf ⊢;rw[Deaf_own,hdf,hdd]
   ·rw[Deaf_other t (by omega) _ g_of_ofEvents];exact h.deafS)
  (by
   rw[hP.dr];split
   ·rename_i e;subst e;rw[Deaf_own,hdf,hdd]
   ·rw[Deaf_other t (by omega) _ g_of_ofEvents];exact h.deafR)
  (by
   rw[hP.d];by_cases e:i=0
   ·subst e;rw[Go.ConcN.upd_same];exact hturn.rel (by simpa using hdf) h.pt.at0 h.relS
   ·rw[Go.ConcN.upd_ne _ _ (Ne.symm e)];exact rlOther h.relS (by omega))
  (by
   rw[hP.d];by_cases e:i=1
   ·subst e;rw[Go.ConcN.upd_same];exact hturn.rel hdf h.pt.at0 h.relR
   ·rw[Go.ConcN.upd_ne _ _ (Ne.symm e)];exact rlOther h.relR (by omega))
  (λtag' ht hw=>⟨λe=>by
    rcases ht with rfl|⟨_,rfl⟩
    ·exact e.elim (λe=>absurd e hk0) (λe=>absurd e hk1)
    ·exact e.elim (λe=>by cases e) (λe=>by cases e),
   λ_ _=>by rw[hP.d];exact hmode tag'.c (jv1 ht) λh1 h2 e=>hw h1 h2 (jyc e)⟩)
  hfit
  (λe=>by
   subst e;have hq:=(hm.fin_inv trivial).1 i hi;refine(h.acq rfl).app λk r hk hr=>?_;by_cases ek:k=n0+i
   ·subst ek;cases hturn with
    | own h7 _ _ _=>omega
    | said h7 _ _ _=>omega
    | book _ _ _ hb hno=>exact hr.book hdf _ _ hb hno
   ·exact hr.appOther g_of_ofEvents (Ne.symm ek))
 refine⟨_,_,_,hr,?_,gs',w',sl,tag',f',d0,put d',q,st',sm',rfl,hco,rfl⟩;rw[hP.d,j4z htag];have e1:=Go.ConcN.Vc_upd p.d d' hi;have e2:=hP.rank;have e3:=hP.fuel;rcases hlt with⟨h1,h2⟩|⟨h1,h2⟩
 ·refine Prod.Lex.left _ _ ?_;have:=jr5 (v':=Vc 2 (upd p.d i d')) (v:=Vc 2 p.d) (by omega) tag;omega
 ·have ec:cnt d'=cnt (p.d i):=by simp only[cnt,h1]
  have ev:Vc 2 (upd p.d i d')=Vc 2 p.d:=by omega
  have er:(put d').rank=p.rank:=by omega
  rw[ev,er];exact Prod.Lex.right _ (by omega)
theorem jvn {d d':WD}{m:Nat}:Puts n0 0 (.ea d m) d' (.ea d' m):=
 ⟨funext λj=>by rcases j with _|j<;>simp[PTag.d,upd],rfl,rfl,rfl,rfl,rfl,by simp[PTag.rank,PTag.d];omega,by simp[PTag.fuel,PTag.d];omega⟩
theorem jto {d d' e:WD}:Puts n0 0 (.fa d e) d' (.fa d' e):=
 ⟨funext λj=>by rcases j with _|_|j<;>simp[PTag.d,upd],rfl,rfl,rfl,rfl,rfl,by simp[PTag.rank,PTag.d];omega,by simp[PTag.fuel,PTag.d];omega⟩
theorem jtp {d d' e:WD}:Puts n0 1 (.fa d e) d' (.fa d d'):=
 ⟨funext λj=>by rcases j with _|_|j<;>simp[PTag.d,upd],rfl,rfl,rfl,rfl,rfl,by simp[PTag.rank,PTag.d];omega,by simp[PTag.fuel,PTag.d];omega⟩
theorem Co.stepSD (hB:N+8<=B)(hS:∀l,Shun l->∃a,l=.cell a/\a.block<N)(hF:∀w w',RR ty N w w'->Fin w->Fin w')(hAr:∀g w,AnchW g w->g.status=.running)(hOr:∀g w,Out g w->g.status=.running)(h:(Co P ty N B w0 Fin v vs vr AnchW Out Shun n0 T0) tag f d0 p q gs w t st sm)
  (hg:gs[n0]?=some g)(hrun:g.status=.running)(hp:(∃d m,p=.ea d m)\/∃d e,p=.fa d e):(Moves P ty N B w0 Fin v vs vr AnchW Out Shun n0 T0) (tag.rank (Vc 2 p.d)+p.rank,f+2*(p.fuel+sumTo n0 q)) gs w sl t n0:=by
 have hpr:=h.pr;rw[hg]at hpr;generalize hb:gs[n0+1]?=b at hpr;rcases hp with⟨d,m,rfl⟩|⟨d,e,rfl⟩
 ·cases hpr with
  | ea hG hR=>
   exact h.inDone (i:=0) hB hS hAr hOr (by omega) (by simpa using hg) hrun hG rfl h.deafS (λd'=>.ea d' m) (λd'=>jvn) (λd' g' w' hA hl hs=>by
    simp only[↓reduceIte,Nat.zero_ne_one,hb];exact .ea hs (hR.rely (RR.turn hA hl)))
 ·cases hpr with
  | fa hG hR hf=>
   exact h.inDone (i:=0) hB hS hAr hOr (by omega) (by simpa using hg) hrun hG rfl h.deafS (λd'=>.fa d' e) (λd'=>jto) (λd' g' w' hA hl hs=>by
    simp only[↓reduceIte,Nat.zero_ne_one,hb];exact .fa hs (hR.rely (RW.of_wg hA hl (by omega))) (hF _ _ (RR.turn hA hl) hf))
theorem Co.stepRD (hB:N+8<=B)(hS:∀l,Shun l->∃a,l=.cell a/\a.block<N)(hF:∀w w',RR ty N w w'->Fin w->Fin w')(hAr:∀g w,AnchW g w->g.status=.running)(hOr:∀g w,Out g w->g.status=.running)(h:(Co P ty N B w0 Fin v vs vr AnchW Out Shun n0 T0) tag f d0 p q gs w t st sm)
  (hg:gs[n0+1]?=some g)(hrun:g.status=.running)(hp:∃d e,p=.fa d e):(Moves P ty N B w0 Fin v vs vr AnchW Out Shun n0 T0) (tag.rank (Vc 2 p.d)+p.rank,f+2*(p.fuel+sumTo n0 q)) gs w sl t (n0+1):=by
 have hpr:=h.pr;rw[hg]at hpr;generalize hb:gs[n0]?=b at hpr;obtain⟨d,e,rfl⟩:=hp;cases hpr with
 | fa hG hR hf=>
  exact h.inDone (i:=1) hB hS hAr hOr (by omega) hg hrun hR rfl h.deafR (λd'=>.fa d d') (λd'=>jtp) (λd' g' w' hA hl hs=>by
   simp only[↓reduceIte,Nat.one_ne_zero,hb];exact .fa (hG.rely (RW.of_wg hA hl (by omega))) hs (hF _ _ (RR.turn hA hl) hf))
end
end Go.Proofs.Mn
