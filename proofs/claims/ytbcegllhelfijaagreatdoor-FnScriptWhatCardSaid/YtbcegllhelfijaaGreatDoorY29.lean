/-
  A part of the proof.
-/
import Derived.Test.YtbcegllhelfijaaGreatDoorY12
import Derived.Test.YtbcegllhelfijaaGreatDoorY27
import Derived.Test.YtbcegllhelfijaaGreatDoorY28
set_option linter.all false
set_option maxRecDepth 100000
set_option maxHeartbeats 8000000
namespace Go.Proofs.Mn
open Go Go.Conc
structure Ready [Atom] [Stays](p:Addr)(W0:World)(X S:Nat->Prop)(w:World)(gs:Array Goroutine)(t:Trace)(q:Nat->Nat):Prop where
 dom:∀b,X b->b<w.heap.size
 clean:CW (fut X w) w
 high:∀b,fut X w b->Tryz.prog.globals.size+1<=b
 sub:∀b,S b->X b
 keep:∀b,Stays.K b->X b/\(Stays.o b).isSome=true/\w.heap[b]?=Stays.o b
 glob:∀b,b<Tryz.prog.globals.size+1->w.heap[b]?=W0.heap[b]?
 size:W0.heap.size<=w.heap.size
 os:w.os=W0.os
 output:w.output=W0.output
 leavers:Leavers Tryz.prog t gs q
 past:Past (shutL S) w.heap.size t
def RetV (V:Value)(w:World)(v:Value)(w2:World):Prop:=v=V/\(∀b,b<w.heap.size->w2.heap[b]?=w.heap[b]?)/\w2.os=w.os/\w2.output=w.output/\w.heap.size<=w2.heap.size
theorem jny (a:Value) [Stays]{p:Addr}{W0 w:World}{X S:Nat->Prop}{law:Frame}{gs:Array Goroutine}{sl:Option (Nat×Nat)}{t:Trace}{q:Nat->Nat}{args:Array Value}{f:FuncId}{V:Value}
  (hg:Tryz.prog.globals.size+1<=W0.heap.size)
  (h:letI:Atom:=⟨212,a⟩;Ready p W0 X S w gs t q)(hne:f≠116)(hfe:tnp.funcs[f]?=Tryz.prog.funcs[f]?){fn:Func}(hfn:Tryz.prog.funcs[f]?=some fn)(hbody:fn.body.isSome=true)(hlaw:law.mode=.run/\law.kind=.normal)
  (ha:letI:Atom:=⟨212,a⟩;∀v∈args,CV (fut X w) v)(h0:gs[0]?=some (G (Frame.enter Tryz.prog f args .normal) [law]))
  (hc:∀τ,Calls tnp f args (w.on τ 0) fun|.returned v,w2=>RetV V w v w2|_,_=>False) :
  letI:Atom:=⟨212,a⟩
  ∃(N:Nat) (X1 S1:Nat->Prop) (gs1:Array Goroutine) (w1:World) (sl1:Option (Nat×Nat)) (t1:Trace) (q1:Nat->Nat),
   runNT Tryz.prog N (crowd gs w sl) t=(.next (crowd gs1 w1 sl1),t1)/\gs1[0]?=some (G (law.finish V) [])/\Ready p W0 X1 S1 w1 gs1 t1 q1:=by
 letI:Atom:=⟨212,a⟩
 have T:=js0 a;have hpass:∀b,X b->Tryz.prog.globals.size+1<=b:=λb hb=>h.high b (.inl hb);obtain⟨N,X1,S1,gs1,v,w1,w1',sl1,t1,q1,hr,h01,hR,hA,hC,hcv,hS1,hfut,hL,hP,x1,x2,x3⟩:=jg6 (P':=tnp) (P:=Tryz.prog) (X0:=X) (S:=S) (f:=f) (pass:=116) (R:=RetV V w) (law:=law) (gs:=gs) (w':=w) (sl:=sl) (t:=t) (q:=q) (args:=args)
  T (jua a X hpass) (passOk a) (jk0 T [law] f (RetV V w)) hne hfe hfn hbody hlaw h.dom h.keep h.clean h.high ha h.sub h0 h.leavers h.past (λv w2 τ d hv=>hv) hc
 obtain⟨rfl,hb,hos,hout,hsz⟩:=hR;have s1:w1'.heap.size=w1.heap.size:=hA.size;have hX1:∀b,X1 b->Tryz.prog.globals.size+1<=b:=λb hx=>(x1 b hx).elim (λh1=>h.high b (.inl h1)) (λh1=>h.high b (.inr h1));have out:∀b,fut (λb=>X1 b/\b<w1'.heap.size) w1' b->X1 b:=λb hx=>hx.elim (λh1=>h1.1) (λh1=>hfut b (by rw[<- s1];exact h1));have into:∀b,X1 b->fut (λb=>X1 b/\b<w1'.heap.size) w1' b:=λb hx=>(Nat.lt_or_ge b w1'.heap.size).elim (λh1=>.inl ⟨hx,h1⟩) .inr;have efut:fut (λb=>X1 b/\b<w1'.heap.size) w1'=X1:=by
  funext b;exact propext ⟨out b,into b⟩
 refine⟨N,λb=>X1 b/\b<w1'.heap.size,S1,gs1,w1',sl1,t1,q1,hr,h01,λb hb=>hb.2,?_,λb hb=>hX1 b (out b hb),λb hb=>⟨(hS1 b hb).1,by rw[s1];exact(hS1 b hb).2⟩,λb hb=>?_,λb hb2=>?_,?_,?_,?_,hL,hP⟩
 ·rw[efut];refine⟨λb o ho hn=>?_⟩;rw[hA.block b hn]at ho;exact hC.obj b o ho hn
 ·obtain⟨k1,k2,k3⟩:=hA.keep b hb;exact⟨⟨k1,jby k2 k3⟩,k2,k3⟩
 ·have hlt:b<w.heap.size:=by have:=h.size;omega
  have hn:¬X1 b:=λhx=>by have:=hX1 b hx;omega
  rw[hA.block b hn];exact(hb b hlt).trans (h.glob b hb2)
 ·have:=h.size;rw[s1];omega
 ·rw[hA.os];exact hos.trans h.os
 ·rw[hA.output];exact hout.trans h.output
def oldX (W:World)(b:Nat):Prop:=Tryz.prog.globals.size+1<=b/\b<W.heap.size
abbrev Stays.all (W:World):Stays:=⟨oldX W,λb=>W.heap[b]?⟩
theorem jpu {W:World}(hg:Tryz.prog.globals.size+1<=W.heap.size):fut (oldX W) W=λb=>Tryz.prog.globals.size+1<=b:=by
 funext b;refine propext ⟨λh=>h.elim (λh=>h.1) (λh=>Nat.le_trans hg h),λh=>?_⟩;rcases Nat.lt_or_ge b W.heap.size with hl|hl
 ·exact .inl ⟨h,hl⟩
 ·exact .inr hl
open Go Go.Conc Go.RowKit Go.Conc.Lib Go.ConcR.Gen Go.ConcN.Gen
theorem _root_.Go.Conc.AtRel.atr {a b c:World}(h:AtRel a b)(k:AtRel b c):AtRel a c:=atRel_trans a b c h k
def Called (W:World)(f:FuncId)(args:Array Value)(law:Frame)(g:Goroutine)(w:World):Prop:=AtRel W w/\g=G (Frame.enter Tryz.prog f args .normal) [law]
open Go Go.Conc Go.RowKit
structure KeptW (W w:World):Prop where
 block:∀b,b<W.heap.size->w.heap[b]?=W.heap[b]?
 size:W.heap.size<=w.heap.size
 os:w.os=W.os
 output:w.output=W.output
theorem KeptW.below {W w:World}(h:KeptW W w):Below W.heap.size W (w.on W.tape w.drawn):=⟨h.os,rfl,h.output,h.size,h.block⟩
theorem KeptW.at {W w w2:World}(h:KeptW W w)(ha:AtRel w w2):KeptW W w2:=by
 obtain⟨d,rfl⟩:=ha;exact⟨h.block,h.size,h.os,h.output⟩
theorem KeptW.refl (W:World):KeptW W W:=⟨λ_ _=>rfl,Nat.le_refl _,rfl,rfl⟩
theorem Ready.at [Atom] [Stays]{p:Addr}{W0 w w2:World}{X S:Nat->Prop}{gs gs2:Array Goroutine}{t t2:Trace}{q q2:Nat->Nat}(h:Ready p W0 X S w gs t q)(ha:AtRel w w2)(hL:Leavers Tryz.prog t2 gs2 q2)(hP:Past (shutL S) w2.heap.size t2):Ready p W0 X S w2 gs2 t2 q2:=by
 obtain⟨d,rfl⟩:=ha;exact⟨h.dom,⟨h.clean.obj⟩,h.high,h.sub,h.keep,h.glob,h.size,h.os,h.output,hL,hP⟩
theorem jee [Atom]{p:Addr}{W w:World}{X S:Nat->Prop}{gs:Array Goroutine}{t:Trace}{q:Nat->Nat}(h:letI:Stays:=Stays.all W;Ready p W X S w gs t q):KeptW W w:=by
 letI:Stays:=Stays.all W
 refine⟨λb hb=>?_,h.size,h.os,h.output⟩;by_cases hg:b<Tryz.prog.globals.size+1
 ·exact h.glob b hg
 ·exact(h.keep b ⟨by omega,hb⟩).2.2
structure Start (a:Value)(p:Addr)(W:World):Prop where
 size:Tryz.prog.globals.size+1<=W.heap.size
 clean:letI:Atom:=⟨212,a⟩;∀b o,b<Tryz.prog.globals.size+1->W.heap[b]?=some o->CO (λb=>Tryz.prog.globals.size+1<=b) o
 env:Go.Proofs.T.Env W p
def Reaches (a:Value)(p:Addr)(W:World)(g0 g:Goroutine):Prop:=
 letI:Atom:=⟨212,a⟩
 letI:Stays:=Stays.all W
 ∃(N:Nat) (X S:Nat->Prop) (gs:Array Goroutine) (w:World) (sl:Option (Nat×Nat)) (t:Trace) (q:Nat->Nat),
  runNT Tryz.prog N (solo g0 W) #[]=(.next (crowd gs w sl),t)/\gs[0]?=some g/\Ready p W X S w gs t q
theorem jch (a:Value){p:Addr}{W w:World}{g:Goroutine}{t:Trace}{q:Nat->Nat}(h:Start a p W)(hk:KeptW W w)(hL:Leavers Tryz.prog t #[g] q)(hP:Past (shutL λ_=>False) w.heap.size t) :
  letI:Atom:=⟨212,a⟩;letI:Stays:=Stays.all W;Ready p W (oldX w) (λ_=>False) w #[g] t q:=by
 letI:Atom:=⟨212,a⟩
 letI:Stays:=Stays.all W
 have hg:Tryz.prog.globals.size+1<=w.heap.size:=Nat.le_trans h.size hk.size;refine⟨λb h=>h.2,?_,λb h=>by rw[jpu hg]at h;exact h,λb h=>h.elim,λb hb=>⟨⟨hb.1,Nat.lt_of_lt_of_le hb.2 hk.size⟩,?_,hk.block b hb.2⟩,λb hb=>hk.block b (Nat.lt_of_lt_of_le hb h.size),hk.size,hk.os,hk.output,hL,hP⟩
 ·rw[jpu hg];refine⟨λb o ho hn=>h.clean b o (Nat.lt_of_not_le hn) ?_⟩;rw[<- hk.block b (Nat.lt_of_lt_of_le (Nat.lt_of_not_le hn) h.size)];exact ho
 ·show(W.heap[b]?).isSome=true;rw[Array.getElem?_eq_getElem hb.2];rfl
theorem jht {B:Nat}:Past (shutL λ_=>False) B #[]:=by
 have hs:shutL (λ_:Nat=>False)=λ_=>False:=by
  funext l;exact propext ⟨λh=>by obtain⟨_,_,h2⟩:=h;exact h2,λh=>h.elim⟩
 rw[hs];exact past_nil.mono (Nat.zero_le _)
theorem Reaches.start {a:Value}{p:Addr}{W:World}(h:Start a p W)(g0:Goroutine):Reaches a p W g0 g0:=
 letI:Atom:=⟨212,a⟩
 ⟨0,_,_,#[g0],W,none,#[],λ_=>0,rfl,rfl,jch a h (KeptW.refl W) (leavers_one _ _) jht⟩
theorem Reaches.call {a:Value}{p:Addr}{W:World}{g0:Goroutine}{fr law:Frame}{f:FuncId}{args:Array Value}{V:Value}(h:Reaches a p W g0 (G fr []))(hs:Start a p W)
  (hG:∀(S:Nat->Prop)(B:Nat)(w:World),Goes Tryz.prog true AtRel (DE S B) (Called w f args law) 60 (G fr []) w)(hlaw:law.mode=.run/\law.kind=.normal)
  (hne:f≠116)(hfe:tnp.funcs[f]?=Tryz.prog.funcs[f]?){fn:Func}(hfn:Tryz.prog.funcs[f]?=some fn)(hbody:fn.body.isSome=true)(hargs:letI:Atom:=⟨212,a⟩;∀X:Nat->Prop,∀v∈args,CV X v)
  (hc:∀w,KeptW W w->Calls tnp f args w fun|.returned v,w2=>RetV V w v w2|_,_=>False):Reaches a p W g0 (G (law.finish V) []):=by
 letI:Atom:=⟨212,a⟩
 letI:Stays:=Stays.all W
 obtain⟨N,X,S,gs,w,sl,t,q,r,h0,Y⟩:=h;obtain⟨N1,gs1,g1,w1,sl1,t1,q1,r1,_,h01,⟨hat1,rfl⟩,L1,P1⟩:=walk_beside (λ_ _ _ h=>h) _ 60 gs _ w sl t q (Nat.le_refl _) h0 Y.leavers Y.past (hG _ _ w);have e1:w1.heap.size=w.heap.size:=by obtain⟨d,rfl⟩:=hat1;rfl
 have Y1:=Y.at hat1 L1 (by rw[e1];exact P1);have K1:=jee Y1;obtain⟨N2,X2,S2,gs2,w2,sl2,t2,q2,r2,h02,Y2⟩:=jny a (sl:=sl1) (V:=V) hs.size Y1 hne hfe hfn hbody hlaw (hargs _) h01 (λτ=>(hc (w1.on τ 0) ⟨K1.block,K1.size,K1.os,K1.output⟩));exact⟨N+N1+N2,X2,S2,gs2,w2,sl2,t2,q2,Go.ConcX.runNT_trans (Go.ConcX.runNT_trans r r1) r2,h02,Y2⟩
theorem jhx {a:Value}{p:Addr}{W:World}{D:Nat->Bool}{fr law:Frame}{f:FuncId}{args:Array Value}{R:Value->Prop}(hs:Start a p W)
  (hG:∀(S:Nat->Prop)(B:Nat)(w:World),Goes Tryz.prog true AtRel (DE S B) (Called w f args law) 60 (G fr []) w)
  (HD:OkD Tryz.prog D)(hf:D f=true)(hc:∀w,AtRel W w->Calls Tryz.prog f args w fun|.returned v,w2=>R v/\Below w.heap.size w w2|_,_=>False):∃V,R V/\Reaches a p W (G fr []) (G (law.finish V) []):=by
 letI:Atom:=⟨212,a⟩
 letI:Stays:=Stays.all W
 obtain⟨N1,g1,w1,t1,r1,⟨hat1,rfl⟩,L1,P1⟩:=jrd (P:=Tryz.prog) (Shun:=shutL λ_=>False) (B:=W.heap.size) (λ_ _ _ h=>h) 60 _ W #[] (hG _ _ W) (leavers_one _ _) jht;have e1:w1.heap.size=W.heap.size:=by obtain⟨d,rfl⟩:=hat1;rfl
 obtain⟨N2,V,w2,t2,r2,⟨hV,hb⟩,L2,P2⟩:=jpc (law:=law) HD hf (hc w1 hat1) L1 (by rw[e1];exact P1);have K1:=(KeptW.refl W).at hat1;refine⟨V,hV,N1+N2,_,_,#[_],w2,none,t2,_,Go.ConcX.runNT_trans r1 r2,rfl,jch a hs ⟨λb hlt=>?_,?_,?_,?_⟩ L2 P2⟩
 ·rw[hb.block b (by omega)];exact K1.block b hlt
 ·have:=hb.size;omega
 ·rw[hb.os];exact K1.os
 ·rw[hb.output];exact K1.output
def GoodRun (W:World)(g0:Goroutine)(Post:Value->World->Prop):Prop:=
 ∃M last o w' t',runNT Tryz.prog (M+1) (solo g0 W) #[]=(.ended o w',t')/\runN Tryz.prog M (solo g0 W)=.next last/\step Tryz.prog last=.ended o w'/\Go.Conc.Good Tryz.prog Post last o w' t'
theorem Reaches.ends {a:Value}{p:Addr}{W:World}{g0 g:Goroutine}{Post:Value->World->Prop}(h:Reaches a p W g0 g)
  (hG:∀(S:Nat->Prop)(B:Nat)(w:World),KeptW W w->Goes Tryz.prog true AtRel (DE S B) (AtEnd Tryz.prog (shutL S) B Post) 60 g w):GoodRun W g0 Post:=by
 letI:Atom:=⟨212,a⟩
 letI:Stays:=Stays.all W
 obtain⟨N,X,S,gs,w,sl,t,q,r,h0,Y⟩:=h;obtain⟨N4,last,o,w',t',f1,f2,f3,f4⟩:=beside_ends (P:=Tryz.prog) (Post:=Post) (sl:=sl) (λ_ _ _ h=>h) h0 Y.leavers Y.past (hG _ _ w (jee Y));refine⟨N+N4,last,o,w',t',?_,?_,f3,f4⟩
 ·rw[Nat.add_assoc,runNT_add];show(match runNT Tryz.prog _ (solo _ W) #[]with|(.next m',t')=>runNT Tryz.prog _ m' t'|r=>r)=_;rw[r];exact f1
 ·rw[runN_add];show(match runN Tryz.prog _ (solo _ W)with|.next m'=>runN Tryz.prog _ m'|e=>e)=_;rw[<- runNT_fst Tryz.prog _ _ #[],r];exact f2
theorem Start.at {a:Value}{p:Addr}{W:World}(h:Start a p W){w:World}(hk:KeptW W w):Go.Proofs.T.Env w p:=by
 have h:=h.env.below hk.below;exact⟨h.pow,h.err,h.max⟩
theorem jx9 {a:Value}{p:Addr}{W:World}(hs:Start a p W)(S:ByteArray):∀w,KeptW W w->Calls tnp 13 #[.string S] w fun|.returned v,w2=>RetV (Go.Proofs.T.strB (Go.Proofs.T.execT S.data.toList)) w v w2|_,_=>False:=λw hk=>(Go.Proofs.T.jf9 S p w (hs.at hk)).mono (by
 rintro e w4 ⟨rfl,hb⟩;exact⟨rfl,hb.block,hb.os,hb.output,hb.size⟩)
theorem jxg {W:World}(S:ByteArray):∀w,KeptW W w->Calls tnp 14 #[.string S] w fun|.returned v,w2=>RetV (Go.Proofs.T.strB (Go.Proofs.T.execT S.data.toList)) w v w2|_,_=>False:=λw hk=>(Go.Proofs.T.j9m S w).mono (by
 rintro e w4 ⟨rfl,hb⟩;exact⟨rfl,hb.block,hb.os,hb.output,hb.size⟩)
theorem ju {b:Frame}{a:Act}{ops:Array Oper}{i d:Nat}{rest:List Nat}{k:List Item}{v:Value}{o:Oper}(ho:ops[i]?=some o)(hd:o.dst=some d):(b.at a (.inRegion ops (i::rest)::k)).finish v=b.at (a.put (some d) v) (.inRegion ops rest::k):=by
 simp[Frame.finish,Frame.at,ho,hd,Act.put]
theorem juj {P:Program}(x y:ByteArray)(w:World):(Op.stringOp .add x y).events P w #[]=#[]:=by
 unfold Op.stringOp Sem.events;dsimp only;split<;>rfl
structure ToCall (g:Goroutine)(f:FuncId)(args:Array Value)(law:Frame):Prop where
 mode:law.mode=.run
 kind:law.kind=.normal
 goes:∀(S:Nat->Prop) (B:Nat) (W:World),Goes Tryz.prog true AtRel (DE S B) (Called W f args law) 60 g W
def ToEnd (g:Goroutine):Prop:=∀(Post:Value->World->Prop)(S:Nat->Prop)(B:Nat)(W:World),(∀w,AtRel W w->Post (.bool true) w)->Goes Tryz.prog true AtRel (DE S B) (AtEnd Tryz.prog (shutL S) B Post) 60 g W
open Go.Lib (hid)
open Go.Proofs.T
open Go.RowKit Go.BigFrame
def PickedX (w:World)(b:Nat)(a:Option Addr)(l cap p:Nat)(n:Int)(e:Ending)(w':World):Prop:=
 ∃k:Int,e=.returned (.int .i64 k)/\0<=k/\(1<=n->k<n)/\w'.heap[b]?=some (.cells #[.slice a l cap,.int .i64 ((p:Int)+1)] 55 (0,0))/\w.grownBy w' (some b)
theorem picked {w w':World}{b:Nat}{n k:Int}{a:Option Addr}{l cap p:Nat}(hh:w.heap[b]?=some (.cells #[.slice a l cap,.int .i64 p] 55 (0,0)))
  (hk:0<=k)(hn:1<=n->k<n)(hw:w'.heap=(w.setCell ⟨b,1,none⟩ (.int .i64 ((p:Int)+1))).heap)(ho:w'.os=w.os)(ht:w'.tape=w.tape)(hu:w'.output=w.output):PickedX w b a l cap p n (.returned (.int .i64 k)) w':=by
 have hg:w.grownBy w' (some b):=by
  have:=jpx (j1y w (some b)) 1 (.int .i64 ((p:Int)+1));exact⟨ho,ht,hu,by rw[hw];exact this.size,λi hi hr=>by rw[hw];exact this.block i hi hr⟩
 refine⟨k,rfl,hk,hn,?_,hg⟩;rw[hw,jfc hh];simp
theorem jqy (b m:Nat)(n:Int)(w:World)(a:Option Addr)(l cap p:Nat)(hh:w.heap[b]?=some (.cells #[.slice a l cap,.int .i64 p] 55 (0,0)))(hp:p<=m)(hl:l<=2000)(hb:BytesAt w a l)(ha:∀x,a=some x->l≠0->x.block<b)(hm:m<=1000000)(hn:n<=1000000) :
  Calls Tryz.prog 18 #[.pointer (some ⟨b,0,none⟩),.int .i64 n] w (PickedX w b a l cap p n):=by
 have hc0:w.cell? ⟨b,0,none⟩=some (.slice a l cap):=by rw[cell_of_heap hh];rfl
 have hc1:w.cell? ⟨b,1,none⟩=some (.int .i64 p):=by rw[cell_of_heap hh];rfl
 have hf1:w.frozen? ⟨b,1,none⟩=false:=frozen_of_heap hh;have hs0:∀v,(w.setCell ⟨b,1,none⟩ v).cell? ⟨b,0,none⟩=some (.slice a l cap):=λv=>by rw[World.cell?_setCell_other _ _ _ _ (by simp)];exact hc0
 have hs1:∀v,(w.setCell ⟨b,1,none⟩ v).cell? ⟨b,1,none⟩=some v:=λv=>World.cell?_setCell_same _ _ _ hc1;by_cases h1:n<1
 ·go_enter Tryz.func18,Tryz.ntmps18
  have HH:=hid hh;clear hh
  go_wp2
  go_ret
  exact picked HH.out (by omega) (by omega) rfl rfl rfl rfl
 ·by_cases h2:l=0
  ·subst h2;go_enter Tryz.func18,Tryz.ntmps18
   have HH:=hid hh;clear hh
   go_wp2
   go_ret
   exact picked HH.out (by omega) (by omega) rfl rfl rfl rfl
  ·rcases id hb with h|⟨c,off,rfl,hcell⟩
   ·exact absurd h h2
   have hne:b≠c:=by have:=ha _ rfl h2;simp at this;omega
   have hce:∀j,j<l->∀v,∃z:Nat,z<256/\(w.setCell ⟨b,1,none⟩ v).cell? ⟨c,off+j,none⟩=some (.int .u8 z):=λj hj v=>by
    obtain⟨z,hz,hcz⟩:=hcell j hj;exact⟨z,hz,by rw[World.cell?_setCell_other _ _ _ _ (λe=>hne (congrArg Addr.block e))];exact hcz⟩
   by_cases h3:p<l
   ·obtain⟨z,hz,hcz⟩:=hce p h3 (.int .i64 ((p:Int)+1));go_enter Tryz.func18,Tryz.ntmps18
    have HH:=hid hh;clear hh hcell hce
    go_wp2
    go_ret
    have e1:=Int.emod_nonneg (z:Int) (show n≠0 by omega);have e2:=Int.emod_lt_of_pos (z:Int) (show 0<n by omega);exact picked HH.out e1 (λ_=>e2) rfl rfl rfl rfl
   ·obtain⟨x,hx,hcx⟩:=hce (p % l) (Nat.mod_lt _ (by omega)) (.int .i64 ((p:Int)+1));obtain⟨y,hy,hcy⟩:=hce ((p*7+3) % l) (Nat.mod_lt _ (by omega)) (.int .i64 ((p:Int)+1));have m1:p % l<l:=Nat.mod_lt _ (by omega);have m2:(p*7+3) % l<l:=Nat.mod_lt _ (by omega);have q1:0<=((p:Int)*7+3) % (l:Int):=Int.emod_nonneg _ (by omega);have q2:((p:Int)*7+3) % (l:Int)<(l:Int):=Int.emod_lt_of_pos _ (by omega);have q3:(((p:Int)*7+3) % (l:Int)).toNat=(p*7+3) % l:=by
     rw[show((p:Int)*7+3)=((p*7+3:Nat):Int) by omega,<- Int.natCast_emod,Int.toNat_natCast]
    have d1:0<=(p:Int) / (l:Int):=Int.ediv_nonneg (by omega) (by omega);have d2:(p:Int) / (l:Int)<=p:=Int.ediv_le_self _ (by omega);go_enter Tryz.func18,Tryz.ntmps18
    have HH:=hid hh;clear hh hcell hce
    go_wp2
    go_quiet (fail)
    have hx1:=jiq ((x:Int)*131+(y:Int)*1117+(p:Int)*29+(p:Int) / (l:Int)*53) (by omega) (by omega)
    go_wp2
    go_ret
    have e1:=Int.emod_nonneg (bits .xor .i64 ((x:Int)*131+(y:Int)*1117+(p:Int)*29+(p:Int) / (l:Int)*53) (((x:Int)*131+(y:Int)*1117+(p:Int)*29+(p:Int) / (l:Int)*53) / 64)) (show n≠0 by omega);have e2:=Int.emod_lt_of_pos (bits .xor .i64 ((x:Int)*131+(y:Int)*1117+(p:Int)*29+(p:Int) / (l:Int)*53) (((x:Int)*131+(y:Int)*1117+(p:Int)*29+(p:Int) / (l:Int)*53) / 64)) (show 0<n by omega);exact picked HH.out e1 (λ_=>e2) rfl rfl rfl rfl
theorem jq7 (a:Option Addr)(n cap:Nat)(w:World)(hc:n<=cap)(hm:cap<=maxLen)(hb:BytesAt w a n) :
  Calls Tryz.prog 17 #[.slice a n cap] w λe w'=>e=.returned (.pointer (some ⟨w.heap.size,0,none⟩))/\(∃k,k<=n/\k<=2000/\w'.heap[w.heap.size]?=some (.cells #[.slice a k cap,.int .i64 0] 55 (0,0)))/\Below w.heap.size w w':=by
 unfold maxLen at hm;have HF:=hid (λk=>heap_alloc_new w (Obj.cells #[Value.slice a k cap,Value.int IntKind.i64 0] 55));by_cases h:n<=2000
 ·go_enter Tryz.func17,Tryz.ntmps17
  go_wp2
  go_ret
  exact⟨rfl,⟨n,Nat.le_refl _,h,HF.out n⟩,(Below.refl _ _).alloc (Nat.le_refl _) _⟩
 ·rcases hb with h0|⟨c,off,rfl,hcell⟩
  ·omega
  go_enter Tryz.func17,Tryz.ntmps17
  have HC:=hid hcell;clear hcell
  go_wp2
  go_ret
  exact⟨rfl,⟨2000,by omega,by omega,HF.out 2000⟩,(Below.refl _ _).alloc (Nat.le_refl _) _⟩
open Go.RowKit
theorem jtq {w0 w:World}{rs:List Res}{b m:Nat}(h:St w0 w (rd w0 b m::rs)):∃(a:Option Addr)(n cap p:Nat),w.heap[b]?=some (.cells #[.slice a n cap,.int .i64 p] 55 (0,0))/\p<=m/\n<=2000/\BytesAt w0 a n/\BytesAt w a n/\∀x,a=some x->n≠0->x.block<b:=by
 obtain⟨a,n,cap,p,h1,h2,h3,h4⟩:=h.1;refine⟨a,n,cap,p,h1,h2,h3,h4,h4.grown (j2s h.below none) (by simp),λx hx hn=>?_⟩;rcases h4 with h4|⟨c,off,rfl,hc⟩
 ·exact absurd h4 hn
 ·cases hx;obtain⟨z,_,hz⟩:=hc 0 (by omega);have:=jo hz;have:=(h.2.1 b rfl).1;show c<b;omega
theorem j2v {w0 w:World}{rs:List Res}(b m:Nat)(n:Int)(h:St w0 w (rd w0 b m::rs))(hm:m<=1000000)(hn:n<=1000000) :
  Calls Tryz.prog 18 #[.pointer (some ⟨b,0,none⟩),.int .i64 n] w λe w'=>∃k:Int,e=.returned (.int .i64 k)/\0<=k/\(1<=n->k<n)/\St w0 w' (rd w0 b (m+1)::rs):=by
 obtain⟨a,l,cap,p,h1,h2,h3,h4,h5,h6⟩:=jtq h;refine(jqy b m n w a l cap p h1 h2 h3 h5 h6 hm hn).mono ?_;rintro e w' ⟨k,rfl,k0,k1,hh,hg⟩;refine⟨k,rfl,k0,k1,h.turn (r':=rd w0 b (m+1)) hg ⟨a,l,cap,p+1,hh,by omega,h3,h4⟩ (λ_ h=>.inl h) (λc hc=>?_)⟩;cases hc;exact j98 hh
theorem jq8 {w0 w:World}{rs:List Res}(a:Option Addr)(n cap:Nat)(h:St w0 w rs)(hc:n<=cap)(hm:cap<=maxLen)(hb:BytesAt w0 a n) :
  Calls Tryz.prog 17 #[.slice a n cap] w λe w'=>∃b,e=.returned (.pointer (some ⟨b,0,none⟩))/\St w0 w' (rd w0 b 0::rs):=by
 refine(jq7 a n cap w hc hm (hb.grown (j2s h.below none) (by simp))).mono ?_;rintro e w' ⟨rfl,⟨k,hk,hk2,hh⟩,hb'⟩;refine⟨_,rfl,h.add (j2s hb' none) ⟨a,k,cap,0,hh,Nat.le_refl _,hk2,?_⟩ (λc hc=>by cases hc;exact⟨Nat.le_refl _,j98 hh⟩)⟩;rcases hb with h0|⟨c,off,e,hcell⟩
 ·exact .inl (by omega)
 ·exact .inr ⟨c,off,e,λj hj=>hcell j (by omega)⟩
theorem j3y (w:World)(g cap:Nat)(x:Int)(c:UInt8)(hx:UInt8.ofNat x.toNat=c)(h0:0<=x)(hd:x<256)(hc:w.cell? ⟨g,0,none⟩=some (.int .u8 x)) :
  (convert 22 9 (.slice (some ⟨g,0,none⟩) 1 cap)).run Tryz.prog w=.ok (.string ⟨#[c]⟩) w:=by
 subst hx;have h:=run_convert_bytes_back (P:=Tryz.prog) w 22 9 5 ⟨g,0,none⟩ cap [UInt8.ofNat x.toNat] Tryz.underlying22 Tryz.underlying5 Tryz.underlying9 (λj hj=>by
  obtain rfl:j=0:=by simpa using hj
  rw[show(⟨g,0,none⟩:Addr).add 0=⟨g,0,none⟩from rfl,hc];have e:x.toNat % 256=x.toNat:=Nat.mod_eq_of_lt (by omega);simp[e];omega)
 simpa using h
theorem j31 {P:Program}(x y:List UInt8)(h:x.length+y.length<=9223372036854775807)(W:World):(Op.stringOp .add ⟨x.toArray⟩ ⟨y.toArray⟩).run P W=.ok (.string ⟨(x++y).toArray⟩) W:=by
 rw[run_string_add_sum W _ _ (by simp[ByteArray.size];omega),ByteArray.mk_append_mk]
theorem j1f:∀n:Nat,(Lib.decDigits n).length<=n+1:=by
 intro n;induction n using Nat.strongRecOn with
 | ind n ih=>
  by_cases h:n<10
  ·rw[Lib.decDigits_one h];simp
  ·rw[Lib.decDigits,dif_neg h];have:=ih (n / 10) (by omega);simp;omega
theorem j2l (w:World)(v:Value)(t:TypeId):(w.alloc (.cells #[v] t)).cell? ⟨w.heap.size,0,none⟩=some v:=by
 rw[cell_of_heap (heap_alloc_new w (.cells #[v] t))];rfl
theorem j2g:∀(n:Nat),n<4611686018427387904->∀w,Calls Tryz.prog 30 #[.int .i64 n] w λe w'=>e=.returned (.string ⟨(Lib.decDigits n).toArray⟩)/\Below w.heap.size w w':=by
 intro n;induction n using Nat.strongRecOn with
 | ind n ih=>
  intro hn w;have a1:¬((n:Int) < -9223372036854775807):=by omega
  have a2:¬((n:Int)<0):=by omega
  by_cases h:n<10
  ·have a3:(n:Int)<10:=by omega
   obtain⟨c,hc⟩:∃c,UInt8.ofNat (48+n)=c:=⟨_,rfl⟩;have ob:=j3y (w.alloc (.cells #[.int .u8 (48+n)] 5)) w.heap.size 1 (48+n) c (by rw[show(48+(n:Int)).toNat=48+n by omega];exact hc) (by omega) (by omega) (j2l _ _ _);have bel:=hid ((Below.refl w.heap.size w).alloc (Nat.le_refl _) (.cells #[.int .u8 (48+n)] 5));have fin:(⟨#[c]⟩:ByteArray)=⟨(Lib.decDigits n).toArray⟩:=by rw[Lib.decDigits_one h,<- hc]
   have FIN:=hid fin;clear fin hc;go_enter Tryz.func30,Tryz.ntmps30
   go_wp2_with fail
   exact bodyPost_ret (v:=.string ⟨#[c]⟩) (by simp[results,Tryz.results30,go_sem]) rfl ⟨by rw[FIN.out],bel.out⟩
  ·have a3:¬((n:Int)<10):=by omega
   obtain⟨m,hm⟩:∃m,n / 10=m:=⟨_,rfl⟩;obtain⟨d,hd⟩:∃d,n % 10=d:=⟨_,rfl⟩;have q1:Int.tdiv n 10=(m:Int):=by rw[Int.tdiv_eq_ediv_of_nonneg (by omega)];omega
   have q2:Int.tmod n 10=(d:Int):=by rw[Int.tmod_eq_emod_of_nonneg (by omega)];omega
   have d10:d<10:=by omega
   have q3:wrap64 (m:Int)=m:=by unfold wrap64;omega
   obtain⟨c,hcc⟩:∃c,UInt8.ofNat (48+d)=c:=⟨_,rfl⟩;have HCC:=hid hcc;have cat:=j31 (P:=Tryz.prog) (Lib.decDigits m) [c] (by have:=j1f m;simp;omega);have IH:=ih m (by omega) (by omega);have fin:(⟨(Lib.decDigits m++[c]).toArray⟩:ByteArray)=⟨(Lib.decDigits n).toArray⟩:=by
    conv=>rhs;rw[Lib.decDigits,dif_neg h,hm,hd]
    rw[<- hcc]
   have FIN:=hid fin;clear fin ih hm hd hcc;go_enter Tryz.func30,Tryz.ntmps30
   go_wp2_with fail
   obtain⟨S,hS⟩:=Mix.named (λw'=>Below w.heap.size w w');have HS:=hid hS;clear hS;have s1:Below w.heap.size w w.drew:=(Below.refl w.heap.size w).drew;refine Mix.start S 11 (by kernel_rfl) ?_;refine Mix.take [0,1,3,4,5,6] 5 (by kernel_rfl) (by kernel_rfl) (by kernel_rfl) (by intro c a a' w e h;exact⟨e.symm.trans h.1,h.2⟩) ((HS.out _).2 s1) ?_;intro hne;simp only[Mix.pickOps,List.filterMap_cons,List.filterMap_nil,List.getElem?_toArray,List.getElem?_cons_zero,List.getElem?_cons_succ];repeat (refine Mix.cons_form ?_;go_big_quiet_step (fail))
   refine wpQuiet_nil ?_;clear hne;refine Mix.fork (i:=2) (j:=7) (by kernel_rfl) rfl rfl rfl rfl ?_ ?_
   ·go_simp;refine(IH _).mono ?_;rintro e w2 ⟨rfl,b2⟩;have s2:=s1.trans (b2.mono s1.size);refine And.intro ((HS.out _).2 s2) ?_;have ob:=j3y (w2.alloc (.cells #[.int .u8 (48+d)] 5)) w2.heap.size 1 (48+d) c (by rw[show(48+(d:Int)).toNat=48+d by omega];exact HCC.out) (by omega) (by omega) (j2l _ _ _);have s3:=s2.alloc s2.size (.cells #[.int .u8 (48+d)] 5);refine Mix.step (i:=7) (by kernel_rfl) rfl rfl ?_;go_simp;refine And.intro ((HS.out _).2 s3) ?_;refine Mix.step (i:=8) (by kernel_rfl) rfl rfl ?_;go_simp;refine And.intro ((HS.out _).2 s3) ?_;refine Mix.step (i:=9) (by kernel_rfl) rfl rfl ?_;go_simp;refine And.intro ((HS.out _).2 s3) ?_;refine Mix.step (i:=10) (by kernel_rfl) rfl rfl ?_;go_simp;refine And.intro ((HS.out _).2 s3) ?_;have F3:=hid s3;clear s1 s2 s3 ob;refine Mix.done (by kernel_rfl) ?_;go_wp2_with fail
    exact bodyPost_ret (v:=.string ⟨(Lib.decDigits m++[c]).toArray⟩) (by simp[results,Tryz.results30,go_sem]) rfl ⟨by rw[FIN.out],F3.out⟩
   ·have ob:=j3y (w.alloc (.cells #[.int .u8 (48+d)] 5)).drew w.heap.size 1 (48+d) c (by rw[show(48+(d:Int)).toNat=48+d by omega];exact HCC.out) (by omega) (by omega) (by rw[World.cell?_drew];exact j2l _ _ _);have s2:=((Below.refl w.heap.size w).alloc (Nat.le_refl _) (.cells #[.int .u8 (48+d)] 5)).drew;have hc:(w.alloc (.cells #[.int .u8 (48+d)] 5)).drew.cell? ⟨w.heap.size,0,none⟩=some (.int .u8 (48+d)):=by rw[World.cell?_drew];exact j2l _ _ _
    have HC:=hid hc;clear hc;go_simp;refine And.intro ((HS.out _).2 s2) ?_;refine Mix.fork (i:=2) (j:=8) (by kernel_rfl) rfl rfl rfl rfl ?_ ?_
    ·go_simp;refine(IH _).mono ?_;rintro e w2 ⟨rfl,b2⟩;have s3:=s2.trans (b2.mono s2.size);refine And.intro ((HS.out _).2 s3) ?_;have ob:=j3y w2 w.heap.size 1 (48+d) c (by rw[show(48+(d:Int)).toNat=48+d by omega];exact HCC.out) (by omega) (by omega) ((b2.cell (p:=⟨w.heap.size,0,none⟩) (by show w.heap.size<(w.heap.push _).size;rw[Array.size_push];exact Nat.lt_succ_self _)).trans HC.out);refine Mix.step (i:=8) (by kernel_rfl) rfl rfl ?_;go_simp;refine And.intro ((HS.out _).2 s3) ?_;refine Mix.step (i:=9) (by kernel_rfl) rfl rfl ?_;go_simp;refine And.intro ((HS.out _).2 s3) ?_;refine Mix.step (i:=10) (by kernel_rfl) rfl rfl ?_;go_simp;refine And.intro ((HS.out _).2 s3) ?_;have F3:=hid s3;clear s1 s2 s3 ob;refine Mix.done (by kernel_rfl) ?_;go_wp2_with fail
     exact bodyPost_ret (v:=.string ⟨(Lib.decDigits m++[c]).toArray⟩) (by simp[results,Tryz.results30,go_sem]) rfl ⟨by rw[FIN.out],F3.out⟩
    ·go_simp;refine And.intro ((HS.out _).2 s2) ?_;refine Mix.step (i:=2) (by kernel_rfl) rfl rfl ?_;go_simp;refine(IH _).mono ?_;rintro e w2 ⟨rfl,b2⟩;have s3:=s2.trans (b2.mono s2.size);refine And.intro ((HS.out _).2 s3) ?_;refine Mix.step (i:=9) (by kernel_rfl) rfl rfl ?_;go_simp;refine And.intro ((HS.out _).2 s3) ?_;refine Mix.step (i:=10) (by kernel_rfl) rfl rfl ?_;go_simp;refine And.intro ((HS.out _).2 s3) ?_;have F3:=hid s3;clear s1 s2 s3 ob;refine Mix.done (by kernel_rfl) ?_;go_wp2_with fail
     exact bodyPost_ret (v:=.string ⟨(Lib.decDigits m++[c]).toArray⟩) (by simp[results,Tryz.results30,go_sem]) rfl ⟨by rw[FIN.out],F3.out⟩
theorem jpy {j z a B:Nat}(h:a+2*j*z<=B):a+j*(z+z)<=B:=by
 have:2*j*z=j*(z+z):=by rw[<- Nat.two_mul,Nat.mul_comm 2 j,Nat.mul_assoc]
 omega
theorem jt6 {j z a B:Nat}(h:a+(2*j+1)*z<=B):a+z+j*(z+z)<=B:=by
 have:(2*j+1)*z=j*(z+z)+z:=by rw[Nat.add_mul,Nat.one_mul,<- Nat.two_mul,Nat.mul_comm 2 j,Nat.mul_assoc]
 omega
theorem jvr {j z B:Nat}(hj:1<=j)(h:j*z<=B):z<=B:=by
 have:=Nat.mul_le_mul_right z hj;omega
def ShortText (w:World)(B:Nat)(e:Ending)(w':World):Prop:=∃T:ByteArray,e=.returned (.string T)/\T.size<=B/\w'=w
theorem jh4 (S:ByteArray)(n B:Nat)(w:World)(hB:n*S.size<=B)(hb:B<=100000)(hS:S.size<=100000)(hn:n<=1000) :
  Calls Tryz.prog 20 #[.string S,.int .i64 n] w (ShortText w B):=by
 have R:∀T:ByteArray,T.size<=B->ShortText w B (.returned (.string T)) w:=λT h=>⟨T,rfl,h,rfl⟩;go_enter Tryz.func20,Tryz.ntmps20
 go_wp2_with fail
 go_loopw [0,1,5] (λs i o wr=>∃(k:Nat) (z t:ByteArray),s=.string z/\i=.int .i64 k/\o=.string t/\t.size+k*z.size<=B/\z.size<=200000/\k<=1000/\wr=w) (λ_ i _ _=>(intOf i).toNat)
 case atStart=>exact⟨n,S,⟨#[]⟩,rfl,rfl,rfl,by have e:(⟨#[]⟩:ByteArray).size=0:=rfl;omega,by omega,hn,rfl⟩
 case round=>
  obtain⟨k,z,t,rfl,rfl,rfl,h1,h2,hkn,hw⟩:=hrel;subst hw;have HR:=hid R;have hts:t.size<=B:=by omega
  clear R;by_cases hk:k=0
  ·subst hk;have FT:=hid hts;clear h1 h2 hts;go_wp2_with fail
   exact bodyPost_ret (v:=.string t) (by simp[results,Tryz.results20,go_sem]) rfl (HR.out t FT.out)
  ·have hz:z.size<=B:=jvr (j:=k) (by omega) (by omega);obtain⟨j,hj⟩:∃j,k=2*j\/k=2*j+1:=⟨k / 2,by omega⟩;rcases hj with rfl|rfl
   ·have e1:(((2*j:Nat):Int) % 2==1)=false:=by simp<;>omega
    have e3:((2*j:Nat):Int)>0:=by omega
    have c1:=λW=>run_string_add_sum (P:=Tryz.prog) W z z (by omega);have H1:=hid (jpy h1);have HZ:=hid hz;have HB:=hid hb;clear h1 h2 hts hz hk hb hB;go_wp2_with fail
    go_roundw
    case rel=>exact⟨j,z++z,t,rfl,by first|rfl|go_num,rfl,by rw[ByteArray.size_append];exact H1.out,by rw[ByteArray.size_append];have:=HZ.out;have:=HB.out;omega,by omega,by first|rfl|trivial⟩
    case measure=>(try simp only[e2]);simp[intOf];omega
   ·have e1:(((2*j+1:Nat):Int) % 2==1)=true:=by simp<;>omega
    have e2:(2*(j:Int)+1).tdiv 2=(j:Int):=by rw[Int.tdiv_eq_ediv_of_nonneg (by omega)];omega
    have e3:((2*j+1:Nat):Int)>0:=by omega
    have c1:=λW=>run_string_add_sum (P:=Tryz.prog) W z z (by omega);have c2:=λW=>run_string_add_sum (P:=Tryz.prog) W t z (by omega);have H1:=hid (jt6 h1);have HZ:=hid hz;have HB:=hid hb;clear h1 h2 hts hz hk hb hB;go_wp2_with fail
    go_roundw
    case rel=>exact⟨j,z++z,t++z,rfl,by first|rfl|(simp only[e2];go_num)|go_num,rfl,by rw[ByteArray.size_append,ByteArray.size_append];exact H1.out,by rw[ByteArray.size_append];have:=HZ.out;have:=HB.out;omega,by omega,by first|rfl|trivial⟩
    case measure=>(try simp only[e2]);simp[intOf];omega
def StrsAt (w:World)(a:Option Addr)(ps:List ByteArray):Prop:=CellsAt w a (ps.map Value.string)
theorem StrsAt.cells {w:World}{a:Option Addr}{ps:List ByteArray}(h:StrsAt w a ps)(j:Nat)(hj:j<ps.length):∃b off,a=some ⟨b,off,none⟩/\w.cell? ⟨b,off+j,none⟩=some (.string ps[j]):=by
 rcases h with h|⟨b,off,rfl,hc⟩
 ·have:ps.length=0:=by have:=congrArg List.length h;simpa using this
  omega
 ·refine⟨b,off,rfl,?_⟩;rw[hc j (by simpa using hj),List.getElem?_map,List.getElem?_eq_getElem hj];rfl
def PickedText (w0:World)(b m:Nat)(l:Value)(ps:List ByteArray)(rs:List Res)(e:Ending)(w':World):Prop:=
 ∃p∈ps,e=.returned (.string p)/\St w0 w' (rd w0 b m::row l 9 1 ps.length (ps.map Value.string)::rs)
theorem jqs {w0 w:World}{rs:List Res}(b m:Nat)(a:Option Addr)(cap:Nat)(ps:List ByteArray)(h:St w0 w (rd w0 b m::row (.slice a ps.length cap) 9 1 ps.length (ps.map Value.string)::rs))(hm:m<=900000)(h1:1<=ps.length)(h2:ps.length<=1000) :
  Calls Tryz.prog 31 #[.pointer (some ⟨b,0,none⟩),.slice a ps.length cap] w (PickedText w0 b (m+1) (.slice a ps.length cap) ps rs):=by
 go_enter Tryz.func31,Tryz.ntmps31
 go_wp2_with fail
 refine(j2v b m ps.length h (by omega) (by omega)).mono ?_;rintro e w1 ⟨k,rfl,k0,k1,s1⟩;have k2:=k1 (by omega);obtain⟨k,rfl⟩:=Int.eq_ofNat_of_zero_le k0;have hk:k<ps.length:=by omega
 obtain⟨g,off,rfl,c0⟩:=(show StrsAt w1 a ps from j2z s1.at1.own).cells k hk;have HM:=hid (List.getElem_mem hk);have F:=hid s1;generalize ps[k]=p at *;clear s1 h k1;go_wp2_with fail
 exact bodyPost_ret (v:=.string p) (by simp[results,Tryz.results31,go_sem]) rfl ⟨p,HM.out,rfl,F.out⟩
def LineDrawn (w0:World)(b m:Nat)(e:Ending)(w':World):Prop:=∃(T:ByteArray)(m':Nat)(rs:List Res),e=.returned (.string T)/\T.size<=300/\m'<=m+5/\St w0 w' (rd w0 b m'::rs)
theorem j1k (a:Array UInt8):(⟨a⟩:ByteArray).size=a.size:=rfl
theorem jd7 (k:Nat)(hk:k<=100)(w:World):Calls Tryz.prog 30 #[.int .i64 k] w λe w'=>∃D:ByteArray,e=.returned (.string D)/\D.size<=101/\Below w.heap.size w w':=(j2g k (by omega) w).mono (by
 rintro e w' ⟨rfl,hb⟩;refine⟨_,rfl,?_,hb⟩;have:=j1f k;simp[ByteArray.size];omega)
theorem jna {w0 w:World}{rs:List Res}(b m:Nat)(h:St w0 w (rd w0 b m::rs))(hm:m<=100000) :
  Calls Tryz.prog 19 #[.pointer (some ⟨b,0,none⟩)] w (LineDrawn w0 b m):=by
 go_enter Tryz.func19,Tryz.ntmps19
 go_wp2_with fail
 refine(j2v b m 9 h (by omega) (by omega)).mono ?_;rintro e w1 ⟨k,rfl,k0,k1,s1⟩;have k2:=k1 (by omega);obtain⟨k,rfl⟩:=Int.eq_ofNat_of_zero_le k0;have HM:=hid hm;clear h k1 k0 hm;rcases(show k=0\/k=1\/k=2\/k=3\/k=4\/k=5\/k=6\/k=7\/k=8 by omega)with rfl|rfl|rfl|rfl|rfl|rfl|rfl|rfl|rfl
 ·go_wp2_with fail
  refine(j2v b _ 3 s1 (by have:=HM.out;omega) (by omega)).mono ?_;rintro e w2 ⟨p2,rfl,p0,p1,s2⟩;have q2:=p1 (by omega);obtain⟨p2,rfl⟩:=Int.eq_ofNat_of_zero_le p0;clear s1 p0 p1;have DC:=hid (jd7 p2 (by omega));go_wp2_with fail
  refine(DC.out _).mono ?_;rintro e w3 ⟨d3,rfl,z3,hb⟩;have s3:=s2.call hb;clear DC hb s2;have c1:=λW=>run_string_add_sum (P:=Tryz.prog) W (⟨#[119,114,105,116,101,32]⟩) (d3) (by (try simp only[ByteArray.size_append,j1k,List.size_toArray,List.length_cons,List.length_nil]);omega);have c2:=λW=>run_string_add_sum (P:=Tryz.prog) W (⟨#[119,114,105,116,101,32]⟩++d3) (⟨#[32]⟩) (by (try simp only[ByteArray.size_append,j1k,List.size_toArray,List.length_cons,List.length_nil]);omega);go_wp2_with fail
  refine(j2v b _ 100 s3 (by have:=HM.out;omega) (by omega)).mono ?_;rintro e w4 ⟨p4,rfl,p0,p1,s4⟩;have q4:=p1 (by omega);obtain⟨p4,rfl⟩:=Int.eq_ofNat_of_zero_le p0;clear s3 p0 p1;have DC:=hid (jd7 p4 (by omega));go_wp2_with fail
  refine(DC.out _).mono ?_;rintro e w5 ⟨d5,rfl,z5,hb⟩;have s5:=s4.call hb;clear DC hb s4;have c3:=λW=>run_string_add_sum (P:=Tryz.prog) W (⟨#[119,114,105,116,101,32]⟩++d3++⟨#[32]⟩) (d5) (by (try simp only[ByteArray.size_append,j1k,List.size_toArray,List.length_cons,List.length_nil]);omega);have F:=hid (show(⟨#[119,114,105,116,101,32]⟩++d3++⟨#[32]⟩++d5).size<=300 by (try simp only[ByteArray.size_append,j1k,List.size_toArray,List.length_cons,List.length_nil]);omega);have FS:=hid s5;clear s5;go_wp2_with fail
  exact bodyPost_ret (v:=.string (⟨#[119,114,105,116,101,32]⟩++d3++⟨#[32]⟩++d5)) (by simp[results,Tryz.results19,go_sem]) rfl ⟨_,_,_,rfl,F.out,by omega,FS.out⟩
 ·go_wp2_with fail
  refine(j2v b _ 3 s1 (by have:=HM.out;omega) (by omega)).mono ?_;rintro e w2 ⟨p2,rfl,p0,p1,s2⟩;have q2:=p1 (by omega);obtain⟨p2,rfl⟩:=Int.eq_ofNat_of_zero_le p0;clear s1 p0 p1;have DC:=hid (jd7 p2 (by omega));go_wp2_with fail
  refine(DC.out _).mono ?_;rintro e w3 ⟨d3,rfl,z3,hb⟩;have s3:=s2.call hb;clear DC hb s2;have c1:=λW=>run_string_add_sum (P:=Tryz.prog) W (⟨#[119,114,105,116,101,32]⟩) (d3) (by (try simp only[ByteArray.size_append,j1k,List.size_toArray,List.length_cons,List.length_nil]);omega);have c2:=λW=>run_string_add_sum (P:=Tryz.prog) W (⟨#[119,114,105,116,101,32]⟩++d3) (⟨#[32]⟩) (by (try simp only[ByteArray.size_append,j1k,List.size_toArray,List.length_cons,List.length_nil]);omega);go_wp2_with fail
  refine(j2v b _ 100 s3 (by have:=HM.out;omega) (by omega)).mono ?_;rintro e w4 ⟨p4,rfl,p0,p1,s4⟩;have q4:=p1 (by omega);obtain⟨p4,rfl⟩:=Int.eq_ofNat_of_zero_le p0;clear s3 p0 p1;have DC:=hid (jd7 p4 (by omega));go_wp2_with fail
  refine(DC.out _).mono ?_;rintro e w5 ⟨d5,rfl,z5,hb⟩;have s5:=s4.call hb;clear DC hb s4;have c3:=λW=>run_string_add_sum (P:=Tryz.prog) W (⟨#[119,114,105,116,101,32]⟩++d3++⟨#[32]⟩) (d5) (by (try simp only[ByteArray.size_append,j1k,List.size_toArray,List.length_cons,List.length_nil]);omega);have F:=hid (show(⟨#[119,114,105,116,101,32]⟩++d3++⟨#[32]⟩++d5).size<=300 by (try simp only[ByteArray.size_append,j1k,List.size_toArray,List.length_cons,List.length_nil]);omega);have FS:=hid s5;clear s5;go_wp2_with fail
  exact bodyPost_ret (v:=.string (⟨#[119,114,105,116,101,32]⟩++d3++⟨#[32]⟩++d5)) (by simp[results,Tryz.results19,go_sem]) rfl ⟨_,_,_,rfl,F.out,by omega,FS.out⟩
 ·have s2:=((s1.alloc (.cells #[.string ⟨#[112,97,115,115,32]⟩,.string ⟨#[112,97,115,115,32]⟩,.string ⟨#[116,101,108,108,32]⟩] 9)).madeRow 1 3 rfl (by simp[maxLen]) 3 (Nat.le_refl _)).at1;have OF:=hid (jqs b (m+1) (some ⟨w1.heap.size,0,none⟩) 3 [⟨#[112,97,115,115,32]⟩,⟨#[112,97,115,115,32]⟩,⟨#[116,101,108,108,32]⟩] s2 (by have:=HM.out;omega) (by decide) (by decide));clear s1 s2;go_wp2_with fail
  refine OF.out.mono ?_;rintro e w3 ⟨t3,ht,rfl,s3⟩;have z3:t3.size<=20:=by
   have:∀p∈([⟨#[112,97,115,115,32]⟩,⟨#[112,97,115,115,32]⟩,⟨#[116,101,108,108,32]⟩]:List ByteArray),p.size<=20:=by decide
   exact this _ ht
  clear OF ht;go_wp2_with fail
  refine(j2v b _ 3 s3 (by have:=HM.out;omega) (by omega)).mono ?_;rintro e w4 ⟨p4,rfl,p0,p1,s4⟩;have q4:=p1 (by omega);obtain⟨p4,rfl⟩:=Int.eq_ofNat_of_zero_le p0;clear s3 p0 p1;have DC:=hid (jd7 p4 (by omega));go_wp2_with fail
  refine(DC.out _).mono ?_;rintro e w5 ⟨d5,rfl,z5,hb⟩;have s5:=s4.call hb;clear DC hb s4;have c1:=λW=>run_string_add_sum (P:=Tryz.prog) W (t3) (d5) (by (try simp only[ByteArray.size_append,j1k,List.size_toArray,List.length_cons,List.length_nil]);omega);have F:=hid (show(t3++d5).size<=300 by (try simp only[ByteArray.size_append,j1k,List.size_toArray,List.length_cons,List.length_nil]);omega);have FS:=hid s5;clear s5;go_wp2_with fail
  exact bodyPost_ret (v:=.string (t3++d5)) (by simp[results,Tryz.results19,go_sem]) rfl ⟨_,_,_,rfl,F.out,by omega,FS.out⟩
 ·have s2:=((s1.alloc (.cells #[.string ⟨#[112,97,115,115,32]⟩,.string ⟨#[112,97,115,115,32]⟩,.string ⟨#[116,101,108,108,32]⟩] 9)).madeRow 1 3 rfl (by simp[maxLen]) 3 (Nat.le_refl _)).at1;have OF:=hid (jqs b (m+1) (some ⟨w1.heap.size,0,none⟩) 3 [⟨#[112,97,115,115,32]⟩,⟨#[112,97,115,115,32]⟩,⟨#[116,101,108,108,32]⟩] s2 (by have:=HM.out;omega) (by decide) (by decide));clear s1 s2;go_wp2_with fail
  refine OF.out.mono ?_;rintro e w3 ⟨t3,ht,rfl,s3⟩;have z3:t3.size<=20:=by
   have:∀p∈([⟨#[112,97,115,115,32]⟩,⟨#[112,97,115,115,32]⟩,⟨#[116,101,108,108,32]⟩]:List ByteArray),p.size<=20:=by decide
   exact this _ ht
  clear OF ht;go_wp2_with fail
  refine(j2v b _ 3 s3 (by have:=HM.out;omega) (by omega)).mono ?_;rintro e w4 ⟨p4,rfl,p0,p1,s4⟩;have q4:=p1 (by omega);obtain⟨p4,rfl⟩:=Int.eq_ofNat_of_zero_le p0;clear s3 p0 p1;have DC:=hid (jd7 p4 (by omega));go_wp2_with fail
  refine(DC.out _).mono ?_;rintro e w5 ⟨d5,rfl,z5,hb⟩;have s5:=s4.call hb;clear DC hb s4;have c1:=λW=>run_string_add_sum (P:=Tryz.prog) W (t3) (d5) (by (try simp only[ByteArray.size_append,j1k,List.size_toArray,List.length_cons,List.length_nil]);omega);have F:=hid (show(t3++d5).size<=300 by (try simp only[ByteArray.size_append,j1k,List.size_toArray,List.length_cons,List.length_nil]);omega);have FS:=hid s5;clear s5;go_wp2_with fail
  exact bodyPost_ret (v:=.string (t3++d5)) (by simp[results,Tryz.results19,go_sem]) rfl ⟨_,_,_,rfl,F.out,by omega,FS.out⟩
 ·go_wp2_with fail
  refine(j2v b _ 4 s1 (by have:=HM.out;omega) (by omega)).mono ?_;rintro e w2 ⟨p2,rfl,p0,p1,s2⟩;have q2:=p1 (by omega);obtain⟨p2,rfl⟩:=Int.eq_ofNat_of_zero_le p0;clear s1 p0 p1;have e1:(1:Int)+((p2:Nat):Int)=((p2+1:Nat):Int):=by omega
  have DC:=hid (jd7 (p2+1) (by omega));go_wp2_with fail
  refine(DC.out _).mono ?_;rintro e w3 ⟨d3,rfl,z3,hb⟩;have s3:=s2.call hb;clear DC hb s2;have c1:=λW=>run_string_add_sum (P:=Tryz.prog) W (⟨#[114,101,97,100,32]⟩) (d3) (by (try simp only[ByteArray.size_append,j1k,List.size_toArray,List.length_cons,List.length_nil]);omega);have c2:=λW=>run_string_add_sum (P:=Tryz.prog) W (⟨#[114,101,97,100,32]⟩++d3) (⟨#[32]⟩) (by (try simp only[ByteArray.size_append,j1k,List.size_toArray,List.length_cons,List.length_nil]);omega);go_wp2_with fail
  refine(j2v b _ 3 s3 (by have:=HM.out;omega) (by omega)).mono ?_;rintro e w4 ⟨p4,rfl,p0,p1,s4⟩;have q4:=p1 (by omega);obtain⟨p4,rfl⟩:=Int.eq_ofNat_of_zero_le p0;clear s3 p0 p1;have DC:=hid (jd7 p4 (by omega));go_wp2_with fail
  refine(DC.out _).mono ?_;rintro e w5 ⟨d5,rfl,z5,hb⟩;have s5:=s4.call hb;clear DC hb s4;have c3:=λW=>run_string_add_sum (P:=Tryz.prog) W (⟨#[114,101,97,100,32]⟩++d3++⟨#[32]⟩) (d5) (by (try simp only[ByteArray.size_append,j1k,List.size_toArray,List.length_cons,List.length_nil]);omega);have F:=hid (show(⟨#[114,101,97,100,32]⟩++d3++⟨#[32]⟩++d5).size<=300 by (try simp only[ByteArray.size_append,j1k,List.size_toArray,List.length_cons,List.length_nil]);omega);have FS:=hid s5;clear s5;go_wp2_with fail
  exact bodyPost_ret (v:=.string (⟨#[114,101,97,100,32]⟩++d3++⟨#[32]⟩++d5)) (by simp[results,Tryz.results19,go_sem]) rfl ⟨_,_,_,rfl,F.out,by omega,FS.out⟩
 ·have s2:=((s1.alloc (.cells #[.string ⟨#[100,114,111,112,32]⟩,.string ⟨#[97,100,100,32]⟩] 9)).madeRow 1 2 rfl (by simp[maxLen]) 2 (Nat.le_refl _)).at1;have OF:=hid (jqs b (m+1) (some ⟨w1.heap.size,0,none⟩) 2 [⟨#[100,114,111,112,32]⟩,⟨#[97,100,100,32]⟩] s2 (by have:=HM.out;omega) (by decide) (by decide));clear s1 s2;go_wp2_with fail
  refine OF.out.mono ?_;rintro e w3 ⟨t3,ht,rfl,s3⟩;have z3:t3.size<=20:=by
   have:∀p∈([⟨#[100,114,111,112,32]⟩,⟨#[97,100,100,32]⟩]:List ByteArray),p.size<=20:=by decide
   exact this _ ht
  clear OF ht;go_wp2_with fail
  refine(j2v b _ 6 s3 (by have:=HM.out;omega) (by omega)).mono ?_;rintro e w4 ⟨p4,rfl,p0,p1,s4⟩;have q4:=p1 (by omega);obtain⟨p4,rfl⟩:=Int.eq_ofNat_of_zero_le p0;clear s3 p0 p1;have e1:(1:Int)+((p4:Nat):Int)=((p4+1:Nat):Int):=by omega
  have DC:=hid (jd7 (p4+1) (by omega));go_wp2_with fail
  refine(DC.out _).mono ?_;rintro e w5 ⟨d5,rfl,z5,hb⟩;have s5:=s4.call hb;clear DC hb s4;have c1:=λW=>run_string_add_sum (P:=Tryz.prog) W (t3) (d5) (by (try simp only[ByteArray.size_append,j1k,List.size_toArray,List.length_cons,List.length_nil]);omega);have F:=hid (show(t3++d5).size<=300 by (try simp only[ByteArray.size_append,j1k,List.size_toArray,List.length_cons,List.length_nil]);omega);have FS:=hid s5;clear s5;go_wp2_with fail
  exact bodyPost_ret (v:=.string (t3++d5)) (by simp[results,Tryz.results19,go_sem]) rfl ⟨_,_,_,rfl,F.out,by omega,FS.out⟩
 ·have s2:=((s1.alloc (.cells #[.string ⟨#[115,104,111,119]⟩,.string ⟨#[115,101,116,116,108,101]⟩,.string ⟨#[115,101,116,116,108,101]⟩] 9)).madeRow 1 3 rfl (by simp[maxLen]) 3 (Nat.le_refl _)).at1;have OF:=hid (jqs b (m+1) (some ⟨w1.heap.size,0,none⟩) 3 [⟨#[115,104,111,119]⟩,⟨#[115,101,116,116,108,101]⟩,⟨#[115,101,116,116,108,101]⟩] s2 (by have:=HM.out;omega) (by decide) (by decide));clear s1 s2;go_wp2_with fail
  refine OF.out.mono ?_;rintro e w3 ⟨t3,ht,rfl,s3⟩;have z3:t3.size<=20:=by
   have:∀p∈([⟨#[115,104,111,119]⟩,⟨#[115,101,116,116,108,101]⟩,⟨#[115,101,116,116,108,101]⟩]:List ByteArray),p.size<=20:=by decide
   exact this _ ht
  clear OF ht;have F:=hid (show(t3).size<=300 by (try simp only[ByteArray.size_append,j1k,List.size_toArray,List.length_cons,List.length_nil]);omega);have FS:=hid s3;clear s3;go_wp2_with fail
  exact bodyPost_ret (v:=.string (t3)) (by simp[results,Tryz.results19,go_sem]) rfl ⟨_,_,_,rfl,F.out,by omega,FS.out⟩
 ·have s2:=((s1.alloc (.cells #[.string ⟨#[119,104,97,116]⟩,.string ⟨#[]⟩,.string ⟨#[119,114,105,116,101,32,49]⟩,.string ⟨#[119,114,105,116,101,32,49,32,49,48,48]⟩,.string ⟨#[114,101,97,100,32,49]⟩,.string ⟨#[112,97,115,115,32,120]⟩,.string ⟨#[112,97,115,115]⟩,.string ⟨#[115,104,111,119,32,49]⟩] 9)).madeRow 1 8 rfl (by simp[maxLen]) 8 (Nat.le_refl _)).at1;have OF:=hid (jqs b (m+1) (some ⟨w1.heap.size,0,none⟩) 8 [⟨#[119,104,97,116]⟩,⟨#[]⟩,⟨#[119,114,105,116,101,32,49]⟩,⟨#[119,114,105,116,101,32,49,32,49,48,48]⟩,⟨#[114,101,97,100,32,49]⟩,⟨#[112,97,115,115,32,120]⟩,⟨#[112,97,115,115]⟩,⟨#[115,104,111,119,32,49]⟩] s2 (by have:=HM.out;omega) (by decide) (by decide));clear s1 s2;go_wp2_with fail
  refine OF.out.mono ?_;rintro e w3 ⟨t3,ht,rfl,s3⟩;have z3:t3.size<=20:=by
   have:∀p∈([⟨#[119,104,97,116]⟩,⟨#[]⟩,⟨#[119,114,105,116,101,32,49]⟩,⟨#[119,114,105,116,101,32,49,32,49,48,48]⟩,⟨#[114,101,97,100,32,49]⟩,⟨#[112,97,115,115,32,120]⟩,⟨#[112,97,115,115]⟩,⟨#[115,104,111,119,32,49]⟩]:List ByteArray),p.size<=20:=by decide
   exact this _ ht
  clear OF ht;have F:=hid (show(t3).size<=300 by (try simp only[ByteArray.size_append,j1k,List.size_toArray,List.length_cons,List.length_nil]);omega);have FS:=hid s3;clear s3;go_wp2_with fail
  exact bodyPost_ret (v:=.string (t3)) (by simp[results,Tryz.results19,go_sem]) rfl ⟨_,_,_,rfl,F.out,by omega,FS.out⟩
 ·go_wp2_with fail
  refine(j2v b _ 100 s1 (by have:=HM.out;omega) (by omega)).mono ?_;rintro e w2 ⟨p2,rfl,p0,p1,s2⟩;have q2:=p1 (by omega);obtain⟨p2,rfl⟩:=Int.eq_ofNat_of_zero_le p0;clear s1 p0 p1;have DC:=hid (jd7 p2 (by omega));go_wp2_with fail
  refine(DC.out _).mono ?_;rintro e w3 ⟨d3,rfl,z3,hb⟩;have s3:=s2.call hb;clear DC hb s2;have c1:=λW=>run_string_add_sum (P:=Tryz.prog) W (⟨#[119,114,105,116,101,32,49,32]⟩) (d3) (by (try simp only[ByteArray.size_append,j1k,List.size_toArray,List.length_cons,List.length_nil]);omega);have F:=hid (show(⟨#[119,114,105,116,101,32,49,32]⟩++d3).size<=300 by (try simp only[ByteArray.size_append,j1k,List.size_toArray,List.length_cons,List.length_nil]);omega);have FS:=hid s3;clear s3;go_wp2_with fail
  exact bodyPost_ret (v:=.string (⟨#[119,114,105,116,101,32,49,32]⟩++d3)) (by simp[results,Tryz.results19,go_sem]) rfl ⟨_,_,_,rfl,F.out,by omega,FS.out⟩
def ScriptDrawn (w:World)(e:Ending)(w':World):Prop:=∃T:ByteArray,e=.returned (.string T)/\T.size<=10000/\Below w.heap.size w w'
theorem j8z (a:Option Addr)(n cap:Nat)(w:World)(hc:n<=cap)(hm:cap<=maxLen)(hb:BytesAt w a n) :
  Calls Tryz.prog 12 #[.slice a n cap] w (ScriptDrawn w):=by
 go_enter Tryz.func12,Tryz.ntmps12
 go_wp2_with fail
 refine(jq8 a n cap (St.start w) hc hm hb).mono ?_;rintro e w1 ⟨b,rfl,s1⟩;go_wp2_with fail
 refine(j2v b 0 12 s1 (by omega) (by omega)).mono ?_;rintro e w2 ⟨k,rfl,k0,k1,s2⟩;have k2:=k1 (by omega);obtain⟨k,rfl⟩:=Int.eq_ofNat_of_zero_le k0;have HS:=hid s2;have HK:Hid (k<12):=hid (by omega);clear s1 s2 k0 k1 k2 hc hm hb;go_wp2_with fail
 go_loopw [4,6] (λo i wr=>∃(j m:Nat) (t:ByteArray) (rs:List Res),o=.string t/\i=.int .i64 j/\j<=k/\m<=1+5*j/\t.size<=301*j/\St w wr (rd w b m::rs)) (λ_ i _=>k-(intOf i).toNat)
 case atStart=>exact⟨0,1,⟨#[]⟩,[],rfl,rfl,Nat.zero_le _,by omega,by simp[ByteArray.size],HS.out⟩
 case round=>
  obtain⟨j,m,t,rs,rfl,rfl,hj,hm,ht,s⟩:=hrel;have k12:=HK.out;by_cases hlt:j<k
  ·have L:=hid (jna b m s (by omega));have HT:=hid ht;have HMM:=hid hm;clear s ht hm hj;go_wp2_with fail
   refine L.out.mono ?_;rintro e w3 ⟨T,m',rs',rfl,hT,hm',s3⟩;have c1:=λW=>run_string_add_sum (P:=Tryz.prog) W t T (by have:=HT.out;omega);have c2:=λW=>run_string_add_sum (P:=Tryz.prog) W (t++T) ⟨#[10]⟩ (by rw[ByteArray.size_append];simp only[j1k,List.size_toArray,List.length_cons,List.length_nil];have:=HT.out;omega);have F:=hid (show(t++T++⟨#[10]⟩:ByteArray).size<=301*(j+1) by rw[ByteArray.size_append,ByteArray.size_append];have:=HT.out;have e:(⟨#[10]⟩:ByteArray).size=1:=rfl;omega);have HS3:=hid s3;have HM3:Hid (m'<=1+5*(j+1)):=hid (by have:=HMM.out;omega);clear s3 hT hm';go_wp2_with fail
   go_roundw
   case rel=>exact⟨j+1,m',_,rs',rfl,by first|rfl|go_num,by omega,HM3.out,F.out,HS3.out⟩
   case measure=>simp[intOf];omega
  ·have hjk:j=k:=by omega
   subst hjk;have HT:=hid (show t.size<=3612 by omega);have HMM:Hid (m<=100):=hid (by omega);clear ht hm hj;go_wp2_with fail
   refine(j2v b m 20 s (by have:=HMM.out;omega) (by omega)).mono ?_;rintro e w3 ⟨p,rfl,p0,p1,s3⟩;obtain⟨p,rfl⟩:=Int.eq_ofNat_of_zero_le p0;clear s p0 p1;by_cases h0:p=0
   ·subst h0;go_wp2_with fail
    refine(j2v b _ 8 s3 (by have:=HMM.out;omega) (by omega)).mono ?_;rintro e w4 ⟨q,rfl,q0,q1,s4⟩;have q2:=q1 (by omega);obtain⟨q,rfl⟩:=Int.eq_ofNat_of_zero_le q0;have e1:(76:Int)+((q:Nat):Int)=((q+76:Nat):Int):=by omega
    have MN:=hid (jh4 ⟨#[115,104,111,119,10]⟩ (q+76) 500 w4 (by rw[show(⟨#[115,104,111,119,10]⟩:ByteArray).size=5 from rfl];omega) (by omega) (by decide) (by omega));have FB:=hid s4.below;clear s3 q0 q1 s4;go_wp2_with fail
    refine MN.out.mono ?_;rintro e w5 ⟨T,rfl,hT,rfl⟩;have c1:=λW=>run_string_add_sum (P:=Tryz.prog) W t T (by have:=HT.out;omega);have F:=hid (show(t++T).size<=10000 by rw[ByteArray.size_append];have:=HT.out;omega);clear hT;go_wp2_with fail
    exact bodyPost_ret (v:=.string (t++T)) (by simp[results,Tryz.results12,go_sem]) rfl ⟨_,rfl,F.out,FB.out⟩
   ·have FB:=hid s3.below;have z0:(((p:Nat):Int)==0)=false:=by simp;omega
    have c1:=λW=>run_string_add_sum (P:=Tryz.prog) W t ⟨#[115,104,111,119]⟩ (by have:=HT.out;have:(⟨#[115,104,111,119]⟩:ByteArray).size=4:=rfl;omega);have F:=hid (show(t++⟨#[115,104,111,119]⟩).size<=10000 by rw[ByteArray.size_append];have:=HT.out;have:(⟨#[115,104,111,119]⟩:ByteArray).size=4:=rfl;omega);have F0:=hid (show t.size<=10000 by have:=HT.out;omega);clear s3;by_cases h1:p=1
    ·subst h1;clear h0;go_wp2_with fail
     exact bodyPost_ret (v:=.string (t++⟨#[115,104,111,119]⟩)) (by simp[results,Tryz.results12,go_sem]) rfl ⟨_,rfl,F.out,FB.out⟩
    ·have z1:(((p:Nat):Int)==1)=false:=by simp;omega
     by_cases h2:p=2
     ·subst h2;clear h0 h1;go_wp2_with fail
      exact bodyPost_ret (v:=.string (t++⟨#[115,104,111,119]⟩)) (by simp[results,Tryz.results12,go_sem]) rfl ⟨_,rfl,F.out,FB.out⟩
     ·have z2:(((p:Nat):Int)==2)=false:=by simp;omega
      clear h0 h1 h2;go_wp2_with fail
      exact bodyPost_ret (v:=.string t) (by simp[results,Tryz.results12,go_sem]) rfl ⟨_,rfl,F0.out,FB.out⟩
end Go.Proofs.Mn
