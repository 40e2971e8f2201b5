/-
  A part of the proof.
-/
import Derived.Test.YtbcegllhelfijaaGreatDoorY13
set_option linter.all false
set_option maxRecDepth 100000
set_option maxHeartbeats 8000000
namespace Go.Proofs.T
open Lib (hid)
open Go.RowKit
structure Nd where
 id:Int
 a:Option Addr
 cap:Nat
 us:List Upd
 done:Int
instance:Inhabited Nd:=⟨⟨0,none,0,[],0⟩⟩
def nd (ns:List Nd)(i:Nat):Nd:=ns.getD i default
theorem j3o {ns:List Nd}{i:Nat}(h:i<ns.length):nd ns i=ns[i]:=by simp[nd,h]
def ncells (ns:List Nd):List Value:=ns.flatMap λn=>[.int .i64 n.id,.slice n.a n.us.length n.cap,.int .i64 n.done]
theorem j1i (n:Nd)(r:List Nd):ncells (n::r)=.int .i64 n.id::.slice n.a n.us.length n.cap::.int .i64 n.done::ncells r:=rfl
theorem j1a (ns:List Nd):(ncells ns).length=ns.length*3:=by
 induction ns with
 | nil=>rfl
 | cons n r ih=>
  rw[j1i];simp only[List.length_cons,ih];omega
theorem j2a (ns:List Nd)(j:Nat)(hj:j<ns.length):(ncells ns)[j*3]?=some (.int .i64 (nd ns j).id)/\(ncells ns)[j*3+1]?=some (.slice (nd ns j).a (nd ns j).us.length (nd ns j).cap)/\(ncells ns)[j*3+2]?=some (.int .i64 (nd ns j).done):=by
 induction ns generalizing j with
 | nil=>simp at hj
 | cons n r ih=>
  rw[j1i];cases j with
  | zero=>exact⟨rfl,rfl,rfl⟩
  | succ j=>
   have:=ih j (by simpa using hj);have e:nd (n::r) (j+1)=nd r j:=by simp[nd]
   rw[e,show(j+1)*3=j*3+1+1+1 by omega,show j*3+1+1+1+1=(j*3+1)+1+1+1 by omega,show j*3+1+1+1+2=(j*3+2)+1+1+1 by omega];simpa using this
theorem j20 (ns ms:List Nd):ncells (ns++ms)=ncells ns++ncells ms:=by simp[ncells]
def LogsAt (w:World)(ns:List Nd):Prop:=∀n∈ns,UpdsAt w n.a n.us/\n.us.length<=n.cap
def NodesAt (w:World)(a:Option Addr)(ns:List Nd):Prop:=CellsAt w a (ncells ns)/\LogsAt w ns
theorem LogsAt.below {w w':World}{ns:List Nd}(h:LogsAt w ns)(hb:Below w.heap.size w w'):LogsAt w' ns:=λn hn=>⟨(h n hn).1.below hb,(h n hn).2⟩
theorem NodesAt.below {w w':World}{a:Option Addr}{ns:List Nd}(h:NodesAt w a ns)(hb:Below w.heap.size w w'):NodesAt w' a ns:=⟨CellsAt.below h.1 hb,h.2.below hb⟩
theorem LogsAt.at {w:World}{ns:List Nd}(h:LogsAt w ns){j:Nat}(hj:j<ns.length):UpdsAt w (nd ns j).a (nd ns j).us/\(nd ns j).us.length<=(nd ns j).cap:=by
 rw[j3o hj];exact h _ (List.getElem_mem hj)
theorem NodesAt.cells {w:World}{a:Option Addr}{ns:List Nd}(h:NodesAt w a ns)(j:Nat)(hj:j<ns.length):∃b off,a=some ⟨b,off,none⟩/\w.cell? ⟨b,off+j*3,none⟩=some (.int .i64 (nd ns j).id)/\w.cell? ⟨b,off+j*3+1,none⟩=some (.slice (nd ns j).a (nd ns j).us.length (nd ns j).cap)/\w.cell? ⟨b,off+j*3+2,none⟩=some (.int .i64 (nd ns j).done):=by
 have hl:=j1a ns;rcases h.1 with h|⟨b,off,rfl,hc⟩
 ·rw[h]at hl;simp at hl;omega
 ·obtain⟨h1,h2,h3⟩:=j2a ns j hj;refine⟨b,off,rfl,?_,?_,?_⟩
  ·rw[hc (j*3) (by omega),h1]
  ·rw[Nat.add_assoc,hc (j*3+1) (by omega),h2]
  ·rw[Nat.add_assoc,hc (j*3+2) (by omega),h3]
def cpl:List Upd->List Upd->Nat
 | x::xs,y::ys=>if x=y then cpl xs ys+1 else 0
 | _,_=>0
theorem jp1:∀(k:Nat)(xs ys:List Upd),k<=xs.length->k<=ys.length->xs.take k=ys.take k->(k=xs.length\/k=ys.length\/xs.getD k (0,0)≠ys.getD k (0,0))->cpl xs ys=k
 | 0,[],_,_,_,_,_=>by simp[cpl]
 | 0,_::_,[],_,_,_,_=>by simp[cpl]
 | 0,x::xs,y::ys,_,_,_,h=>by
  simp at h;simp[cpl,h]
 | k+1,[],_,h,_,_,_=>by simp at h
 | k+1,_::_,[],_,h,_,_=>by simp at h
 | k+1,x::xs,y::ys,h1,h2,h3,h4=>by
  simp at h3;have:=jp1 k xs ys (by simpa using h1) (by simpa using h2) h3.2 (by simpa using h4);simp[cpl,h3.1,this]
theorem jui:∀(xs ys:List Upd),cpl xs ys<=xs.length
 | [],_=>by simp[cpl]
 | _::_,[]=>by simp[cpl]
 | x::xs,y::ys=>by
  have:=jui xs ys;simp[cpl];split<;>omega
theorem jf1:∀(xs ys:List Upd),cpl xs ys=xs.length↔xs <+: ys
 | [],_=>by simp[cpl]
 | x::xs,[]=>by simp[cpl]
 | x::xs,y::ys=>by
  have:=jf1 xs ys;rw[List.cons_prefix_cons,<- this];simp only[cpl,List.length_cons];split
  ·rename_i h;simp[h]
  ·rename_i h;simp[h]
def stepP (ns:List Nd)(i:Nat):Prop:=
 nodeOk (nd ns i).id (nd ns i).us (nd ns i).done=true/\(∀j,j<i->(nd ns j).id≠(nd ns i).id)/\(0<i->(nd ns i).us <+: (nd ns (i-1)).us/\(nd ns (i-1)).done<=(nd ns i).done)
def tailP (ns:List Nd):Prop:=(nd ns (ns.length-1)).done=(nd ns (ns.length-1)).us.length
def chainP (view:Int)(ns:List Nd):Prop:=(0<=view/\view<=999)/\(1<=ns.length/\ns.length<=5)/\(∀i,i<ns.length->stepP ns i)/\tailP ns
noncomputable def chainOk (view:Int)(ns:List Nd):Bool:=@decide (chainP view ns) (Classical.propDecidable _)
theorem j1c {view:Int}{ns:List Nd}:chainOk view ns=true↔chainP view ns:=by simp[chainOk]
theorem j3e {view:Int}{ns:List Nd}(h:¬chainP view ns):chainOk view ns=false:=by simp[chainOk,h]
theorem j45 {view:Int}{ns:List Nd}(h:chainP view ns):chainOk view ns=true:=by simp[chainOk,h]
theorem j8o {xs ys:List Upd}{k:Nat}(h:xs.take k=ys.take k)(hx:k<xs.length)(hy:k<ys.length)(he:xs[k]=ys[k]):xs.take (k+1)=ys.take (k+1):=by
 rw[List.take_succ_eq_append_getElem hx,List.take_succ_eq_append_getElem hy,h,he]
theorem jdd (a a':Option Addr)(cap cap':Nat)(us vs:List Upd)(w:World)(hm:us.length<=1099511627776)(hm':vs.length<=1099511627776)(hx:UpdsAt w a us)(hy:UpdsAt w a' vs) :
  Calls tnp 58 #[.slice a us.length cap,.slice a' vs.length cap'] w λe w'=>e=.returned (.int .i64 (cpl us vs))/\Below w.heap.size w w':=by
 go_enter Twn.func58,Tryz.ntmps58
 go_wp2_with fail
 go_loopw [5] (λi wr=>∃k n:Nat,k<=us.length/\k<=vs.length/\i=.int .i64 k/\us.take k=vs.take k/\wr=w.drewN n) (λi _=>us.length-(intOf i).toNat)
 case atStart=>exact⟨0,0,Nat.zero_le _,Nat.zero_le _,rfl,by simp,rfl⟩
 case round=>
  obtain⟨k,n,hk,hk',rfl,heq,rfl⟩:=hrel;have HE:=hid heq;have FN:=hid (λh=>jp1 k us vs hk hk' heq h);clear heq;by_cases hlt:k<us.length
  ·by_cases hlt':k<vs.length
   ·obtain⟨b,off,rfl,c0,c1⟩:=hx.cells k hlt;obtain⟨b',off',rfl,d0,d1⟩:=hy.cells k hlt';have i1:(0:Int)<=(k:Int):=by omega
    have i2:(k:Int)<(us.length:Int):=by omega
    have i3:(k:Int)<(vs.length:Int):=by omega
    have e1:us.getD k (0,0)=us[k]:=by simp[hlt]
    have e2:vs.getD k (0,0)=vs[k]:=by simp[hlt']
    have NE:=hid (λh=>FN.out (.inr (.inr (by rw[e1,e2];exact h))));have ST:=hid (λh=>j8o HE.out hlt hlt' h);clear e1 e2;generalize hu:us[k]=p at *;generalize hv:vs[k]=q at *;clear hu hv;obtain⟨p1,p2⟩:=p;obtain⟨q1,q2⟩:=q;by_cases h1:p1=q1
    ·by_cases h2:p2=q2
     ·subst h1;subst h2;go_wp2_with fail
      go_quiet (fail)
      go_wp2_with fail
      go_roundw
      case rel=>exact⟨k+1,_,hlt,hlt',by go_num,ST.out (by first|rfl|trivial),rfl⟩
      case measure=>simp[intOf];omega
     ·have NN:=hid (NE.out (by simp[h2]));have g2:(p2==q2)=false:=by simpa using h2
      subst h1;clear h2;go_wp2_with fail
      go_quiet (fail)
      go_wp2_with fail
      go_ret
      exact⟨by rw[NN.out];rfl,j1g (j1g (Below.refl _ _) _) _⟩
    ·have NN:=hid (NE.out (by simp[h1]));have g1:(p1==q1)=false:=by simpa using h1
     clear h1;go_wp2_with fail
     go_quiet (fail)
     go_wp2_with fail
     go_ret
     exact⟨by rw[NN.out];rfl,j1g (j1g (Below.refl _ _) _) _⟩
   ·have NN:=hid (FN.out (.inr (.inl (by omega))));have hd:decide (k<vs.length)=false:=by simpa using hlt'
    clear hlt';go_wp2_with fail
    go_quiet (fail)
    go_wp2_with fail
    go_ret
    exact⟨by rw[NN.out];rfl,j1g (j1g (Below.refl _ _) _) _⟩
  ·have NN:=hid (FN.out (.inl (by omega)));have hd:decide (k<us.length)=false:=by simpa using hlt
   clear hlt;go_wp2_with fail
   go_quiet (fail)
   go_wp2_with fail
   go_ret
   exact⟨by rw[NN.out];rfl,j1g (j1g (Below.refl _ _) _) _⟩
def upTo (xs:List Int)(n:Int):Nat:=(xs.takeWhile (· != n)).length
def place (xs:List Int)(n:Int):Int:=if n∈xs then upTo xs n else -1
theorem jtm (xs:List Int)(n:Int)(k:Nat)(hk:k<xs.length)(he:xs[k]=n)(hn:∀j,j<k->xs.getD j 0≠n):place xs n=k:=by
 have hm:n∈xs:=he▸List.getElem_mem hk;rw[place,if_pos hm];congr 1;induction xs generalizing k with
 | nil=>simp at hk
 | cons x r ih=>
  cases k with
  | zero=>
   simp at he;simp[upTo,he]
  | succ k=>
   have h0:x≠n:=by simpa using hn 0 (by omega)
   have:=ih k (by simpa using hk) (by simpa using he) (λj hj=>by have:=hn (j+1) (by omega);simpa using this) (he▸by simp);simp only[upTo,List.takeWhile_cons]at this ⊢;simp[h0,this]
theorem jnx (xs:List Int)(n:Int)(hn:∀j,j<xs.length->xs.getD j 0≠n):place xs n=-1:=by
 rw[place,if_neg];intro hm;obtain⟨j,hj,e⟩:=List.getElem_of_mem hm;exact hn j hj (by simp[hj,e])
theorem jtn (xs:List Int)(k:Nat)(hk:k<xs.length):(place xs xs[k]<k↔xs[k]∈xs.take k)/\0<=place xs xs[k]:=by
 have hm:xs[k]∈xs:=List.getElem_mem hk;rw[place,if_pos hm];refine⟨?_,by omega⟩;generalize hn:xs[k]=n at *;clear hm;induction xs generalizing k with
 | nil=>simp at hk
 | cons x r ih=>
  cases k with
  | zero=>simp[upTo]
  | succ k=>
   have:=ih k (by simpa using hk) (by simpa using hn);simp only[upTo,List.takeWhile_cons,List.take_succ_cons,List.mem_cons]at this ⊢;by_cases hx:x=n
   ·subst hx;simp
   ·have hx':(x != n)=true:=by simpa using hx
    simp only[hx',if_true,List.length_cons];have e:(n=x\/n∈r.take k)↔n∈r.take k:=⟨λh=>h.resolve_left (Ne.symm hx),.inr⟩;rw[e,<- this];omega
theorem j6j {xs:List Int}{n:Int}(h:0<=place xs n):∃i:Nat,∃hi:i<xs.length,xs[i]=n/\place xs n=i:=by
 by_cases hm:n∈xs
 ·rw[place,if_pos hm];refine⟨upTo xs n,?_,?_,rfl⟩
  ·clear h;induction xs with
   | nil=>cases hm
   | cons x r ih=>
    simp only[upTo,List.takeWhile_cons];by_cases hx:x=n
    ·subst hx;simp
    ·have:=ih (by rcases List.mem_cons.1 hm with e|e;exact absurd e.symm hx;exact e);simp only[upTo]at this;simp[hx];exact this
  ·clear h;induction xs with
   | nil=>cases hm
   | cons x r ih=>
    by_cases hx:x=n
    ·subst hx;simp[upTo]
    ·have:=ih (by rcases List.mem_cons.1 hm with e|e;exact absurd e.symm hx;exact e);have e:upTo (x::r) n=upTo r n+1:=by simp[upTo,hx]
     simp[e,this]
 ·rw[place,if_neg hm]at h;omega
theorem jc7 (a a':Option Addr)(cap cap':Nat)(us vs:List Upd)(w:World)(hm:us.length<=1099511627776)(hm':vs.length<=1099511627776)(hx:UpdsAt w a us)(hy:UpdsAt w a' vs)(h1:logOk us=true)(h2:logOk vs=true) :
  Calls tnp 71 #[.slice a us.length cap,.slice a' vs.length cap'] w λe w'=>e=.returned (.int .i64 (cpl us vs))/\Below w.heap.size w w':=by
 have H1:=hid h1;have H2:=hid h2;clear h1 h2;go_enter Twn.func71,Tryz.ntmps71
 go_wp2_with fail
 refine(j1e _ _ _ _ hm hx).mono ?_;rw[H1.out];rintro e w1 ⟨rfl,hb1⟩;go_wp2_with fail
 refine(j1e _ _ _ _ hm' (hy.below hb1)).mono ?_;rw[H2.out];rintro e w2 ⟨rfl,hb2⟩;have hB:=hb1.trans (hb2.mono hb1.size);have hx:=hx.below hB;have hy:=hy.below hB;clear hb1 hb2;go_wp2_with fail
 go_loopw [5] (λi wr=>∃k n:Nat,k<=us.length/\k<=vs.length/\i=.int .i64 k/\us.take k=vs.take k/\wr=w2.drewN n) (λi _=>us.length-(intOf i).toNat)
 case atStart=>exact⟨0,0,Nat.zero_le _,Nat.zero_le _,rfl,by simp,rfl⟩
 case round=>
  obtain⟨k,n,hk,hk',rfl,heq,rfl⟩:=hrel;have HE:=hid heq;have FN:=hid (λh=>jp1 k us vs hk hk' heq h);clear heq;by_cases hlt:k<us.length
  ·by_cases hlt':k<vs.length
   ·obtain⟨b,off,rfl,c0,c1⟩:=hx.cells k hlt;obtain⟨b',off',rfl,d0,d1⟩:=hy.cells k hlt';have i1:(0:Int)<=(k:Int):=by omega
    have i2:(k:Int)<(us.length:Int):=by omega
    have i3:(k:Int)<(vs.length:Int):=by omega
    have e1:us.getD k (0,0)=us[k]:=by simp[hlt]
    have e2:vs.getD k (0,0)=vs[k]:=by simp[hlt']
    have NE:=hid (λh=>FN.out (.inr (.inr (by rw[e1,e2];exact h))));have ST:=hid (λh=>j8o HE.out hlt hlt' h);clear e1 e2;generalize hu:us[k]=p at *;generalize hv:vs[k]=q at *;clear hu hv;obtain⟨p1,p2⟩:=p;obtain⟨q1,q2⟩:=q;by_cases h1:p1=q1
    ·by_cases h2:p2=q2
     ·subst h1;subst h2;go_wp2_with fail
      go_quiet (fail)
      go_wp2_with fail
      go_roundw
      case rel=>exact⟨k+1,_,hlt,hlt',by go_num,ST.out (by first|rfl|trivial),rfl⟩
      case measure=>simp[intOf];omega
     ·have NN:=hid (NE.out (by simp[h2]));have g2:(p2==q2)=false:=by simpa using h2
      subst h1;clear h2;go_wp2_with fail
      go_quiet (fail)
      go_wp2_with fail
      go_ret
      exact⟨by rw[NN.out];rfl,j1g (j1g hB _) _⟩
    ·have NN:=hid (NE.out (by simp[h1]));have g1:(p1==q1)=false:=by simpa using h1
     clear h1;go_wp2_with fail
     go_quiet (fail)
     go_wp2_with fail
     go_ret
     exact⟨by rw[NN.out];rfl,j1g (j1g hB _) _⟩
   ·have NN:=hid (FN.out (.inr (.inl (by omega))));have hd:decide (k<vs.length)=false:=by simpa using hlt'
    clear hlt';go_wp2_with fail
    go_quiet (fail)
    go_wp2_with fail
    go_ret
    exact⟨by rw[NN.out];rfl,j1g (j1g hB _) _⟩
  ·have NN:=hid (FN.out (.inl (by omega)));have hd:decide (k<us.length)=false:=by simpa using hlt
   clear hlt;go_wp2_with fail
   go_quiet (fail)
   go_wp2_with fail
   go_ret
   exact⟨by rw[NN.out];rfl,j1g (j1g hB _) _⟩
def preOk (us vs:List Upd):Bool:=decide (cpl us vs=us.length)
theorem jr0 {us vs:List Upd}:preOk us vs=true↔us <+: vs:=by rw[preOk,decide_eq_true_eq,jf1]
theorem jc6 (a a':Option Addr)(cap cap':Nat)(us vs:List Upd)(w:World)(hm:us.length<=1099511627776)(hm':vs.length<=1099511627776)(hx:UpdsAt w a us)(hy:UpdsAt w a' vs)(h1:logOk us=true)(h2:logOk vs=true) :
  Calls tnp 49 #[.slice a us.length cap,.slice a' vs.length cap'] w λe w'=>e=.returned (.bool (preOk us vs))/\Below w.heap.size w w':=by
 have H1:=hid h1;have H2:=hid h2;clear h1 h2;have F:Hid (preOk us vs=decide (cpl us vs=us.length)):=hid rfl;go_enter Twn.func49,Tryz.ntmps49
 go_wp2_with fail
 refine(j1e _ _ _ _ hm hx).mono ?_;rw[H1.out];rintro e w1 ⟨rfl,hb1⟩;go_wp2_with fail
 refine(jc7 _ _ _ _ _ _ _ hm hm' (hx.below hb1) (hy.below hb1) H1.out H2.out).mono ?_;rintro e w2 ⟨rfl,hb2⟩;generalize cpl us vs=q at *;go_wp2_with fail
 go_ret
 exact⟨j1j (by rw[F.out,Bool.eq_iff_iff];simp;omega),hb1.trans (hb2.mono hb1.size)⟩
theorem jlg {ns:List Nd}{j:Nat}(hj:j<ns.length):(ns.map Nd.id).getD j 0=(nd ns j).id:=by simp[nd,hj]
def cplace (ns:List Nd)(x:Int):Int:=place (ns.map Nd.id) x
theorem j7p {ns:List Nd}{x:Int}(k:Nat)(hk:k<ns.length)(he:(nd ns k).id=x)(hn:∀j,j<k->(nd ns j).id≠x):cplace ns x=k:=
 jtm _ _ k (by simpa using hk) (by rw[<- he,j3o hk];simp) λj hj=>by rw[jlg (by omega)];exact hn j hj
theorem j5a {ns:List Nd}{x:Int}(hn:∀j,j<ns.length->(nd ns j).id≠x):cplace ns x=-1:=
 jnx _ _ λj hj=>by rw[jlg (by simpa using hj)];exact hn j (by simpa using hj)
theorem j29 (view:Int)(a:Option Addr)(cap:Nat)(ns:List Nd)(x:Int)(w:World)(hm:ns.length<=1099511627776)(hx:NodesAt w a ns) :
  Calls tnp 48 #[.agg #[.int .i64 view,.slice a ns.length cap],.int .i64 x] w λe w'=>e=.returned (.int .i64 (cplace ns x))/\Below w.heap.size w w':=by
 have s0:=(St.start w).alloc (.cells #[.int .i64 view,.slice a ns.length cap] 34);go_enter Twn.func48,Tryz.ntmps48
 go_wp2_with fail
 go_loopw [10] (λi wr=>∃k:Nat,k<=ns.length/\i=.int .i64 k/\(∀j,j<k->(nd ns j).id≠x)/\Below w.heap.size w wr) (λi _=>ns.length-(intOf i).toNat)
 case atStart=>exact⟨0,Nat.zero_le _,rfl,by intro j hj;omega,s0.below⟩
 case round=>
  obtain⟨k,hk,rfl,hno,hB⟩:=hrel;have HN:=hid hno;clear hno;by_cases hlt:k<ns.length
  ·obtain⟨b,off,rfl,c0,c1,c2⟩:=(hx.below hB).cells k hlt;have i1:(0:Int)<=(k:Int):=by omega
   have i2:(k:Int)<(ns.length:Int):=by omega
   have hBA:=hB.alloc hB.size (.cells #[.int .i64 (nd ns k).id,.slice (nd ns k).a (nd ns k).us.length (nd ns k).cap,.int .i64 (nd ns k).done] 60 (0,0));have YES:=hid (λh=>j7p k hlt h HN.out);have NO:Hid ((nd ns k).id≠x->∀j,j<k+1->(nd ns j).id≠x):=hid (λh j hj=>by
    by_cases e:j=k
    ·rw[e];exact h
    ·exact HN.out j (by omega))
   generalize(nd ns k).id=p at *;generalize(nd ns k).done=q at *;generalize(nd ns k).us.length=l at *;generalize(nd ns k).cap=c at *;generalize(nd ns k).a=y at *;by_cases he:p=x
   ·have Y:=hid (YES.out he);subst he;go_wp2_with fail
    go_ret
    exact⟨by rw[Y.out];rfl,hBA⟩
   ·have N:=hid (NO.out he);have he':(p==x)=false:=by simpa using he
    clear he;go_wp2_with fail
    go_roundw
    case rel=>exact⟨k+1,hlt,by go_num,N.out,hBA⟩
    case measure=>simp[intOf];omega
  ·have Y:Hid (cplace ns x=-1):=hid (j5a λj hj=>HN.out j (by omega));go_wp2_with fail
   go_ret
   exact⟨by rw[Y.out];rfl,hB⟩
theorem jjl (a:Option Addr)(cap:Nat)(ns:List Nd)(x:Int)(n:Nat)(w:World)(hn:n=ns.length)(hm:n<=1099511627776)(hx:CellsAt w a (ncells ns)) :
  Calls tnp 57 #[.slice a n cap,.int .i64 x] w λe w'=>e=.returned (.bool (decide (0<=cplace ns x)))/\w=w':=by
 subst hn;have HX:=hid hx;clear hx;go_enter Twn.func57,Tryz.ntmps57
 go_wp2_with fail
 go_loop [5] (λi=>∃k:Nat,k<=ns.length/\i=.int .i64 k/\(∀j,j<k->(nd ns j).id≠x)) (λi=>ns.length-(intOf i).toNat)
 case atStart=>exact⟨0,Nat.zero_le _,rfl,by intro j hj;omega⟩
 case round=>
  obtain⟨k,hk,rfl,hno⟩:=hrel;have HN:=hid hno;clear hno;by_cases hlt:k<ns.length
  ·have hl:=j1a ns;rcases HX.out with h|⟨b,off,rfl,hc⟩
   ·rw[h]at hl;simp at hl;omega
   have c0:=hc (k*3) (by omega);rw[(j2a ns k hlt).1]at c0;have i1:(0:Int)<=(k:Int):=by omega
   have i2:(k:Int)<(ns.length:Int):=by omega
   have YES:Hid ((nd ns k).id=x->decide (0<=cplace ns x)=true):=hid (λh=>by rw[j7p k hlt h HN.out];simp);have NO:Hid ((nd ns k).id≠x->∀j,j<k+1->(nd ns j).id≠x):=hid (λh j hj=>by
    by_cases e:j=k
    ·rw[e];exact h
    ·exact HN.out j (by omega))
   clear hc hl HX;generalize(nd ns k).id=p at *;by_cases he:p=x
   ·have Y:=hid (YES.out he);subst he;go_wp2_with fail
    go_ret
    exact⟨by rw[Y.out];rfl,rfl⟩
   ·have N:=hid (NO.out he);have he':(p==x)=false:=by simpa using he
    clear he;go_wp2_with fail
    go_round
    case rel=>exact⟨k+1,hlt,by go_num,N.out⟩
    case measure=>simp[intOf];omega
  ·have Y:Hid (decide (0<=cplace ns x)=false):=hid (by rw[j5a λj hj=>HN.out j (by omega)];rfl);clear HX;go_wp2_with fail
   go_ret
   exact⟨by rw[Y.out];rfl,rfl⟩
def nodeV (n:Nd):Value:=.agg #[.int .i64 n.id,.slice n.a n.us.length n.cap,.int .i64 n.done]
theorem ja4 (view:Int)(a:Option Addr)(cap:Nat)(ns:List Nd)(w:World)(hm:ns.length<=1099511627776)(h0:0<ns.length)(hx:NodesAt w a ns) :
  Calls tnp 50 #[.agg #[.int .i64 view,.slice a ns.length cap]] w λe w'=>e=.returned (nodeV (nd ns (ns.length-1)))/\Below w.heap.size w w':=by
 have s0:=(St.start w).alloc (.cells #[.int .i64 view,.slice a ns.length cap] 34);have s1:=s0.alloc (.cells #[.int .i64 0,.slice none 0 0,.int .i64 0] 60);obtain⟨k,hk⟩:∃k,k=ns.length-1:=⟨_,rfl⟩;obtain⟨b,off,rfl,c0,c1,c2⟩:=(hx.below s1.below).cells k (by omega);have ei:(ns.length:Int)-1=(k:Int):=by omega
 have i1:(0:Int)<=(k:Int):=by omega
 have i2:(k:Int)<(ns.length:Int):=by omega
 rw[<- hk];unfold nodeV;generalize(nd ns k).id=p at *;generalize(nd ns k).done=q at *;generalize(nd ns k).us.length=l at *;generalize(nd ns k).cap=c at *;generalize(nd ns k).a=y at *;clear hk;go_enter Twn.func50,Tryz.ntmps50
 go_wp2_with fail
 exact bodyPost_ret (v:=.agg #[.int .i64 p,.slice y l c,.int .i64 q]) (by simp[results,Tryz.results50,go_sem]) rfl ⟨rfl,((Below.refl _ _).alloc (Nat.le_refl _) _).alloc (by simp) _⟩
theorem j8v {view:Int}{ns:List Nd}(h:¬(0<=view/\view<=999)):chainOk view ns=false:=j3e λhc=>h hc.1
theorem jb5 {view:Int}{ns:List Nd}(h:¬(1<=ns.length/\ns.length<=5)):chainOk view ns=false:=j3e λhc=>h hc.2.1
theorem jds {view:Int}{ns:List Nd}{k:Nat}(hk:k<ns.length)(h:¬stepP ns k):chainOk view ns=false:=j3e λhc=>h (hc.2.2.1 k hk)
theorem j8u {view:Int}{ns:List Nd}(h:¬tailP ns):chainOk view ns=false:=j3e λhc=>h hc.2.2.2
theorem jlo {ns:List Nd}{k:Nat}{n:Nd}(h:nd ns k=n):stepP ns k↔nodeOk n.id n.us n.done=true/\(∀j,j<k->(nd ns j).id≠n.id)/\(0<k->n.us <+: (nd ns (k-1)).us/\(nd ns (k-1)).done<=n.done):=by
 subst h;exact Iff.rfl
theorem jay {ns:List Nd}{k:Nat}(h:∀i,i<k->stepP ns i)(hk:stepP ns k):∀i,i<k+1->stepP ns i:=λi hi=>by
 by_cases e:i=k
 ·rw[e];exact hk
 ·exact h i (by omega)
theorem jqz {xs:List Int}{n:Int}(h:n∈xs):0<=place xs n:=by rw[place,if_pos h];omega
theorem jf2 {ns:List Nd}{k:Nat}{x:Int}(hk:k<ns.length)(he:(nd ns k).id=x)(h:¬ ∀j,j<k->(nd ns j).id≠x):0<=cplace ns x/\cplace ns x<k:=by
 have h1:∃j,j<k/\(nd ns j).id=x:=by
  apply Classical.byContradiction;intro hc;exact h λj hj e=>hc ⟨j,hj,e⟩
 obtain⟨j,hj,e⟩:=h1;have hl:=jtn (ns.map Nd.id) k (by simpa using hk);have ex:(ns.map Nd.id)[k]'(by simpa using hk)=x:=by rw[<- he,j3o hk];simp
 rw[ex]at hl;refine⟨hl.2,hl.1.2 ?_⟩;rw[<- e,j3o (by omega)];rw[List.mem_take_iff_getElem];exact⟨j,by simp;omega,by simp⟩
def Short (ns:List Nd)(m:Nat):Prop:=∀n∈ns,n.us.length<=m
theorem Short.at {ns:List Nd}{m:Nat}(h:Short ns m){j:Nat}(hj:j<ns.length):(nd ns j).us.length<=m:=by rw[j3o hj];exact h _ (List.getElem_mem hj)
theorem jz (view:Int)(a:Option Addr)(cap:Nat)(ns:List Nd)(w:World)(hm:ns.length<=1099511627776)(hs:Short ns 1099511627776)(hx:NodesAt w a ns) :
  Calls tnp 32 #[.agg #[.int .i64 view,.slice a ns.length cap]] w λe w'=>e=.returned (.bool (chainOk view ns))/\Below w.heap.size w w':=by
 have s0:=(St.start w).alloc (.cells #[.int .i64 view,.slice a ns.length cap] 34);by_cases h1:0<=view
 ·by_cases h2:view<=999
  ·by_cases h3:1<=ns.length
   ·by_cases h4:ns.length<=5
    ·have GOOD:=hid (λhst ht=>j45 (view:=view) (ns:=ns) ⟨⟨h1,h2⟩,⟨h3,h4⟩,hst,ht⟩);go_enter Twn.func32,Tryz.ntmps32
     go_wp2_with fail
     go_loopw [30] (λi wr=>∃k:Nat,k<=ns.length/\i=.int .i64 k/\(∀i,i<k->stepP ns i)/\St w wr [box w.heap.size #[.int .i64 view,.slice a ns.length cap] 34]) (λi _=>ns.length-(intOf i).toNat)
     case atStart=>exact⟨0,Nat.zero_le _,rfl,by intro j hj;omega,s0⟩
     case round=>
      clear s0;obtain⟨k,hk,rfl,hst,s1⟩:=hrel;have HST:=hid hst;clear hst;obtain⟨x1,_⟩:=s1.cells;by_cases hlt:k<ns.length
      ·obtain⟨b,off,rfl,c0,c1,c2⟩:=(hx.below s1.below).cells k hlt;obtain⟨hu,hcap⟩:=(hx.2.below s1.below).at hlt;have HU':=hid (λW (h:Below w.heap.size w W)=>((hx.2.below h).at hlt).1);have hmk:=hs.at hlt;have i1:(0:Int)<=(k:Int):=by omega
       have i2:(k:Int)<(ns.length:Int):=by omega
       rcases hN:nd ns k with⟨p,y,c,us,q⟩;have SI:=hid (jlo hN);have PL:=hid (λh=>j7p (x:=p) k hlt (by rw[hN]) h);have PB:=hid (λh=>jf2 (x:=p) hlt (by rw[hN]) h);have HU:Hid (∀W,Below w.heap.size w W->UpdsAt W y us):=hid (by have:=HU'.out;rw[hN]at this;exact this);clear HU';rw[hN]at c0 c1 c2 hu hcap hmk;dsimp only at c0 c1 c2 hu hcap hmk SI;have BAD:=hid (λh=>jds (view:=view) hlt h);have s2:=s1.alloc (.cells #[.int .i64 p,.slice y us.length c,.int .i64 q] 60);clear hN;cases hv:nodeOk p us q with
       | false=>
        have F:=hid (BAD.out (λh=>by have:=(SI.out.1 h).1;rw[hv]at this;cases this));have HV:=hid hv;clear hv;go_wp2_with fail
        refine(j38 _ _ _ _ _ _ hmk (HU.out _ s2.below)).mono ?_;rw[HV.out];rintro e w1 ⟨rfl,hb⟩;go_wp2_with fail
        go_ret
        exact⟨by rw[F.out];rfl,(s2.call hb).below⟩
       | true=>
        have HV:=hid hv;have LK:=hid (j21 hv).2.1;clear hv;go_wp2_with fail
        refine(j38 _ _ _ _ _ _ hmk (HU.out _ s2.below)).mono ?_;rw[HV.out];rintro e w1 ⟨rfl,hb⟩;have s3:=s2.call hb;obtain⟨c3,_⟩:=s3.cells;obtain⟨x3,_⟩:=s3.drop.cells;clear s2 hb x1 c0 c1 c2;by_cases hd:∀j,j<k->(nd ns j).id≠p
        ·have PE:=hid (PL.out hd);have HD:=hid hd;clear hd;go_wp2_with fail
         refine(j29 _ _ _ _ _ _ hm (hx.below s3.below)).mono ?_;rw[PE.out];rintro e w2 ⟨rfl,hb2⟩;have s4:=s3.call hb2;obtain⟨c4,_⟩:=s4.cells;obtain⟨x4,_⟩:=s4.drop.cells;clear s3 c3 x3 hb2;by_cases hz:k=0
         ·have hz':((k:Int)==0)=true:=by simp[hz]
          have FIN:=hid (jay HST.out (SI.out.2 ⟨HV.out,HD.out,by omega⟩));clear hz;go_wp2_with fail
          go_roundw
          case rel=>exact⟨k+1,hlt,by go_num,FIN.out,s4.drop⟩
          case measure=>simp[intOf];omega
         ·have hz':((k:Int)==0)=false:=by simp[hz]
          obtain⟨j,hj⟩:∃j,k=j+1:=⟨k-1,by omega⟩;have hjl:j<ns.length:=by omega
          have ej:(k:Int)-1=(j:Int):=by omega
          have j1:(0:Int)<=(j:Int):=by omega
          have j2:(j:Int)<(ns.length:Int):=by omega
          obtain⟨b',off',e',d0,d1,d2⟩:=(hx.below s4.below).cells j hjl;cases e';obtain⟨hu',hcap'⟩:=(hx.2.below s4.below).at hjl;have hmj:=hs.at hjl;have SJ:=HST.out j (by omega);rcases hN:nd ns j with⟨p',y',c',us',q'⟩;have LJ:Hid (logOk us'=true):=hid (by
           have:=(j21 SJ.1).2.1;rw[hN]at this;exact this)
          have SI':Hid (stepP ns k↔nodeOk p us q=true/\(∀j,j<k->(nd ns j).id≠p)/\(0<k->us <+: us'/\q'<=q)):=hid (by
           have:=SI.out;rw[show k-1=j by omega,hN]at this;exact this)
          rw[hN]at d0 d1 d2 hu' hcap' hmj;dsimp only at d0 d1 d2 hu' hcap' hmj;have kp:0<k:=by omega
          have l4:=s4.lt.2;have lx4:=s4.drop.lt.2;clear hN SJ hj hz SI;have s5:=s4.alloc (.cells #[.int .i64 p',.slice y' us'.length c',.int .i64 q'] 60);go_wp2_with fail
          refine(jc6 _ _ _ _ us us' _ hmk hmj (HU.out _ (s5.below)) (hu'.below (j72 (World.grownBy_alloc w2 _ none))) LK.out LJ.out).mono ?_;have PI:=hid (jr0 (us:=us) (vs:=us'));cases hpre:preOk us us' with
          | false=>
           have F:=hid (BAD.out (λh=>by have:=PI.out.2 ((SI'.out.1 h).2.2 kp).1;rw[hpre]at this;cases this));rintro e w3 ⟨rfl,hb3⟩;have s6:=s5.call hb3;clear s4 s5 hb3;go_wp2_with fail
           go_ret
           exact⟨by rw[F.out];rfl,s6.below⟩
          | true=>
           have PP:=hid (PI.out.1 hpre);clear hpre;rintro e w3 ⟨rfl,hb3⟩;have s6:=s5.call hb3;obtain⟨c6,_⟩:=s6.cells;obtain⟨d6,_⟩:=s6.drop.cells;clear s4 s5 hb3 c4 x4;by_cases hq:q'<=q
           ·have FIN:=hid (jay HST.out (SI'.out.2 ⟨HV.out,HD.out,λ_=>⟨PP.out,hq⟩⟩));go_wp2_with fail
            go_roundw
            case rel=>exact⟨k+1,hlt,by go_num,FIN.out,s6.drop.drop⟩
            case measure=>simp[intOf];omega
           ·have F:=hid (BAD.out (λh=>hq ((SI'.out.1 h).2.2 kp).2));go_wp2_with fail
            go_ret
            exact⟨by rw[F.out];rfl,s6.below⟩
        ·have PE:=PB.out hd;have F:=hid (BAD.out (λh=>hd (SI.out.1 h).2.1));obtain⟨z,hzE,z0,z1⟩:∃z,cplace ns p=z/\0<=z/\z<k:=⟨_,rfl,PE⟩;have HZ:=hid hzE;clear hzE PE;have hz:(z != (k:Int))=true:=by rw[bne_iff_ne];omega
         clear hd PL PB;go_wp2_with fail
         refine(j29 _ _ _ _ _ _ hm (hx.below s3.below)).mono ?_;rw[HZ.out];rintro e w2 ⟨rfl,hb2⟩;have s4:=s3.call hb2;clear s3 c3 x3 hb2;go_wp2_with fail
         go_ret
         exact⟨by rw[F.out];rfl,s4.below⟩
      ·have hkn:k=ns.length:=by omega
       have G:=hid (GOOD.out (by rw[<- hkn];exact HST.out));have T:=hid (j8u (view:=view) (ns:=ns));unfold tailP at G T;obtain⟨hu,hcap⟩:=(hx.2.below s1.below).at (show ns.length-1<ns.length by omega);have TC:=hid (λW (h:Below w.heap.size w W)=>ja4 view a cap ns W hm (by omega) (hx.below h));rcases hN:nd ns (ns.length-1)with⟨p,y,c,us,q⟩;rw[hN]at G T TC;unfold nodeV at TC;dsimp only at G T TC;clear hN hkn;by_cases ht:q=us.length
       ·have F:=hid (G.out ht);subst ht;go_wp2_with fail
        refine(TC.out _ s1.below).mono ?_;rintro e w2 ⟨rfl,hb2⟩;have s4:=s1.call hb2;clear s1 hb2;go_wp2_with fail
        go_ret
        exact⟨by rw[F.out];rfl,(s4.alloc _).below⟩
       ·have F:=hid (T.out ht);have ht':(q==(us.length:Int))=false:=by simpa using ht
        clear ht;go_wp2_with fail
        refine(TC.out _ s1.below).mono ?_;rintro e w2 ⟨rfl,hb2⟩;have s4:=s1.call hb2;clear s1 hb2;go_wp2_with fail
        go_ret
        exact⟨by rw[F.out];rfl,(s4.alloc _).below⟩
    ·have F:=hid (jb5 (view:=view) (ns:=ns) (λh=>h4 h.2));go_enter Twn.func32,Tryz.ntmps32
     go_wp2_with fail
     go_ret
     exact⟨by rw[F.out];rfl,s0.below⟩
   ·have F:=hid (jb5 (view:=view) (ns:=ns) (λh=>h3 h.1));go_enter Twn.func32,Tryz.ntmps32
    go_wp2_with fail
    go_ret
    exact⟨by rw[F.out];rfl,s0.below⟩
  ·have F:=hid (j8v (view:=view) (ns:=ns) (λh=>h2 h.2));go_enter Twn.func32,Tryz.ntmps32
   go_wp2_with fail
   go_ret
   exact⟨by rw[F.out];rfl,s0.below⟩
 ·have F:=hid (j8v (view:=view) (ns:=ns) (λh=>h1 h.1));go_enter Twn.func32,Tryz.ntmps32
  go_wp2_with fail
  go_ret
  exact⟨by rw[F.out];rfl,s0.below⟩
theorem St.allocAt {w0 w:World}{rs:List Res}(h:St w0 w rs)(o:Obj)(n:Nat)(hn:w.heap.size=n):St w0 (w.alloc o) (boxo n o::rs):=hn▸h.alloc o
structure Grown (W:World) where
 out:World
 below:Below W.heap.size W out
instance (W:World):Nonempty (Grown W):=⟨⟨W,Below.refl _ _⟩⟩
def grow (W:World)(x:Grown W):World:=x.out
theorem j1b {W:World}(x:Grown W):Below W.heap.size W (grow W x):=x.below
theorem jf {W:World}{b o:Nat}{v:Value}(h:W.cell? ⟨b,o,none⟩=some v)(x:Grown W):(grow W x).cell? ⟨b,o,none⟩=some v:=by
 show x.out.cell? _=_;rw[x.below.cell (p:=⟨b,o,none⟩) (jo h)];exact h
theorem jm {P:Program}{id:Nat}{Q:Exit->Act->World->Prop}{a:Act}{w:World}{l:List Oper}(hm:P.follows .mixedOrders=true)(hB:Region.lexB .any l.toArray=true)
  (h:wpQuiet P l.toArray (λw'=>∃x:Grown w,w'=grow w x) (λa'=>∀w',(∃x:Grown w,w'=grow w x)->Q .normal a' w') l a):(Code.region id l.toArray true).wp P Q a w:=
 wp_region_quiet (C:=λw'=>∃x:Grown w,w'=grow w x) hm hB ⟨⟨w.drew,⟨rfl,rfl,rfl,Nat.le_refl _,λ_ _=>rfl⟩⟩,rfl⟩ (by simpa using h)
theorem Calls.grow_of {P:Program}{f:FuncId}{args:Array Value}{W:World}{x:Grown W}{v:Value}
  (h:Calls P f args (grow W x) λe w'=>e=.returned v/\Below (grow W x).heap.size (grow W x) w'):Calls P f args (grow W x) λe w''=>e=.returned v/\∃y:Grown W,w''=grow W y:=
 h.mono λ_ w' ⟨he,hb⟩=>⟨he,⟨w',x.below.trans (hb.mono x.below.size)⟩,rfl⟩
theorem Calls.grow_same {P:Program}{f:FuncId}{args:Array Value}{W:World}{x:Grown W}{v:Value}
  (h:Calls P f args (grow W x) λe w'=>e=.returned v/\grow W x=w'):Calls P f args (grow W x) λe w''=>e=.returned v/\∃y:Grown W,w''=grow W y:=
 h.mono λ_ _ ⟨he,hb⟩=>⟨he,x,hb.symm⟩
theorem jvk {ns:List Nd}{k j:Nat}(h:j<k):nd (ns.take k) j=nd ns j:=by
 simp[nd,List.getD,h]
theorem jq0 {ns:List Nd}{k:Nat}{x:Int}(h:∀j,j<k->(nd ns j).id≠x):decide (0<=cplace (ns.take k) x)=false:=by
 rw[j5a λj hj=>?_]
 ·rfl
 ·have:j<k:=by simp at hj;omega
  rw[jvk this];exact h j this
theorem jpz {ns:List Nd}{k:Nat}{x:Int}(hk:k<=ns.length)(h:¬ ∀j,j<k->(nd ns j).id≠x):decide (0<=cplace (ns.take k) x)=true:=by
 apply decide_eq_true;apply Classical.byContradiction;intro hc;apply h;intro j hj e;apply hc;have hm:x∈(ns.take k).map Nd.id:=by
  rw[<- e,List.mem_map];refine⟨nd ns j,?_,rfl⟩;rw[j3o (by omega),List.mem_take_iff_getElem];exact⟨j,by omega,rfl⟩
 exact jqz hm
theorem jjr (ns:List Nd)(k:Nat):(ncells ns).take (k*3)=ncells (ns.take k):=by
 induction ns generalizing k with
 | nil=>simp[ncells]
 | cons n r ih=>
  cases k with
  | zero=>simp[ncells]
  | succ k=>
   rw[j1i,show(k+1)*3=k*3+1+1+1 by omega,List.take_succ_cons,List.take_succ_cons,List.take_succ_cons,ih,List.take_succ_cons,j1i]
theorem jm1 {w:World}{a:Option Addr}{cs:List Value}(h:CellsAt w a cs)(m:Nat):CellsAt w a (cs.take m):=by
 rcases h with rfl|⟨b,off,rfl,hc⟩
 ·exact .inl (by simp)
 ·refine .inr ⟨b,off,rfl,λj hj=>?_⟩;simp at hj;rw[hc j (by omega),List.getElem?_take,if_pos (by omega)]
theorem jw (view:Int)(a:Option Addr)(cap:Nat)(ns:List Nd)(w:World)(hm:ns.length<=1099511627776)(hc:ns.length<=cap)(hs:Short ns 1099511627776)(hx:NodesAt w a ns) :
  Calls tnp 38 #[.agg #[.int .i64 view,.slice a ns.length cap]] w λe w'=>e=.returned (.bool (chainOk view ns))/\Below w.heap.size w w':=by
 have s0:=(St.start w).alloc (.cells #[.int .i64 view,.slice a ns.length cap] 34);have GOOD:=hid (λh1 h2 hst ht=>j45 (view:=view) (ns:=ns) ⟨h1,h2,hst,ht⟩);go_enter Twn.func38,Tryz.ntmps38
 go_wp2_with fail
 go_loopw [3] (λi wr=>∃k:Nat,k<=ns.length/\i=.int .i64 k/\(∀i,i<k->stepP ns i)/\(k=ns.length->tailP ns)/\St w wr [box w.heap.size #[.int .i64 view,.slice a ns.length cap] 34]) (λi _=>ns.length-(intOf i).toNat)
 case atStart=>
  refine⟨0,Nat.zero_le _,rfl,by intro j hj;omega,λh=>?_,s0⟩;have:ns=[]:=List.eq_nil_of_length_eq_zero h.symm;rw[this];rfl
 case round=>
  clear s0;obtain⟨k,hk,rfl,hst,htl,s1⟩:=hrel;have HST:=hid hst;have HTL:=hid htl;clear hst htl;obtain⟨x1,_⟩:=s1.cells;by_cases hlt:k<ns.length
  ·obtain⟨b,off,rfl,c0,c1,c2⟩:=(hx.below s1.below).cells k hlt;have HU':=hid (λW (h:Below w.heap.size w W)=>((hx.2.below h).at hlt).1);have hmk:=hs.at hlt;have i1:(0:Int)<=(k:Int):=by omega
   have i2:(k:Int)<(ns.length:Int):=by omega
   have i3:(k:Int)<=(cap:Int):=by omega
   have LT:=hid (λW (h:Below w.heap.size w W)=>by
    have:=jm1 (hx.below h).1 (k*3);rw[jjr]at this;exact this)
   rcases hN:nd ns k with⟨p,y,c,us,q⟩;have SI:=hid (jlo hN);have HU:Hid (∀W,Below w.heap.size w W->UpdsAt W y us):=hid (by have:=HU'.out;rw[hN]at this;exact this);clear HU';rw[hN]at c0 c1 c2 hmk;dsimp only at c0 c1 c2 hmk SI;have BAD:=hid (λh=>jds (view:=view) hlt h);have NK:=hid hN;have LEN:=hid (show k=(ns.take k).length by simp;omega);have s2:=s1.alloc (.cells #[.int .i64 p,.slice y us.length c,.int .i64 q] 60);clear hN;go_wp2_with fail
   have hB:=s2.lt.2;have hX:=s2.drop.lt.2;obtain⟨c3,_⟩:=s2.cells;obtain⟨x3,_⟩:=s2.drop.cells;generalize wr.alloc (.cells #[.int .i64 p,.slice y us.length c,.int .i64 q] 60 (0,0))=wq at *;generalize wr.heap.size=B at *;have k0:=c3 0;have k1:=c3 1;have k2:=c3 2;have k3:=x3 1;simp at k0 k1 k2 k3;clear c3 x3 x1 c0 c1 c2;cases hv:nodeOk p us q with
   | false=>
    have F:=hid (BAD.out (λh=>by have:=(SI.out.1 h).1;rw[hv]at this;cases this));have HV:=hid hv;clear hv;have g0:=jf k0;have g1:=jf k1;have g2:=jf k2;have g3:=jf k3;have hBg:=j1b (W:=wq);have HG:=hid (λx:Grown wq=>s2.call (j1b x));have NV:=hid (λx:Grown wq=>j27 y c p q us (grow wq x) hmk (HU.out _ (HG.out x).below));rw[HV.out]at NV;refine jm (by kernel_rfl) (by kernel_rfl) ?_;repeat (go_big_quiet_step ((go_at_call 56;exact Calls.grow_of (NV.out _))))
    refine wpQuiet_nil ?_;rintro _ ⟨x,rfl⟩;go_wp2_with fail
    go_ret
    exact⟨by rw[F.out];rfl,(HG.out x).below⟩
   | true=>
    have HV:=hid hv;have LK:=hid (j21 hv).2.1;clear hv;have g0:=jf k0;have g1:=jf k1;have g2:=jf k2;have g3:=jf k3;have HG:=hid (λx:Grown wq=>s2.call (j1b x));have NV:=hid (λx:Grown wq=>j27 y c p q us (grow wq x) hmk (HU.out _ (HG.out x).below));rw[HV.out]at NV;have L4:=hid (λx:Grown wq=>jjl (some ⟨b,off,none⟩) cap (ns.take k) p k (grow wq x) LEN.out (by omega) (LT.out _ (HG.out x).below));by_cases hd:∀j,j<k->(nd ns j).id≠p
    ·rw[jq0 hd]at L4;have HD:=hid hd;clear hd;refine jm (by kernel_rfl) (by kernel_rfl) ?_;repeat (go_big_quiet_step ((first|(go_at_call 56;exact Calls.grow_of (NV.out _))|(go_at_call 57;exact Calls.grow_same (L4.out _)))))
     refine wpQuiet_nil ?_;rintro _ ⟨x,rfl⟩;have s5:=HG.out x;have k0:=g0 x;have k1:=g1 x;have k2:=g2 x;have k3:=g3 x;clear g0 g1 g2 g3 HG NV L4 s2;generalize grow wq x=wr5 at *;clear x;by_cases hz:k=0
     ·have hz1:decide ((0:Int)<(k:Int))=false:=by simp;omega
      have hz2:decide (0<k)=false:=by simp;omega
      have SK:=hid (SI.out.2 ⟨HV.out,HD.out,by omega⟩);clear hz;go_wp2_with fail
      go_quiet (fail)
      have s9:=s5.drewN nq;obtain⟨c9,_⟩:=s9.cells;obtain⟨x9,_⟩:=s9.drop.cells;generalize wr5.drewN nq=w9 at *;clear s5 k0 k1 k2 k3;have FIN:=hid (jay HST.out SK.out);by_cases hlast:k+1=ns.length
      ·have hl9:((k:Int)+1==(ns.length:Int))=true:=by simp;omega
       by_cases ht:q=us.length
       ·have TT:Hid (tailP ns):=hid (by unfold tailP;rw[show ns.length-1=k by omega,NK.out];exact ht);subst ht;clear hlast;go_wp2_with fail
        go_roundw
        case rel=>exact⟨k+1,hlt,by go_num,FIN.out,λ_=>TT.out,s9.drop⟩
        case measure=>simp[intOf];omega
       ·have F:Hid (chainOk view ns=false):=hid (j8u λh=>ht (by unfold tailP at h;rw[show ns.length-1=k by omega,NK.out]at h;exact h));have ht':(q != (us.length:Int))=true:=by simpa using ht
        clear ht hlast;go_wp2_with fail
        go_ret
        exact⟨by rw[F.out];rfl,s9.below⟩
      ·have hl9:((k:Int)+1==(ns.length:Int))=false:=by simp;omega
       go_wp2_with fail
       go_roundw
       case rel=>exact⟨k+1,hlt,by go_num,FIN.out,λh=>absurd h hlast,s9.drop⟩
       case measure=>simp[intOf];omega
     ·obtain⟨j,hj⟩:∃j,k=j+1:=⟨k-1,by omega⟩;have hjl:j<ns.length:=by omega
      have ej:(k:Int)-1=(j:Int):=by omega
      have ew:IntKind.i64.wrap ((k:Int)-1)=(j:Int):=by rw[IntKind.wrap_i64]<;>omega
      have j1:(0:Int)<=(j:Int):=by omega
      have j2:(j:Int)<(ns.length:Int):=by omega
      obtain⟨b',off',e',d0,d1,d2⟩:=(hx.below s5.below).cells j hjl;cases e';have HU2:=hid (λW (h:Below w.heap.size w W)=>((hx.2.below h).at hjl).1);have hmj:=hs.at hjl;rcases hN:nd ns j with⟨p',y',c',us',q'⟩;have SI':Hid (stepP ns k↔nodeOk p us q=true/\(∀j,j<k->(nd ns j).id≠p)/\(0<k->us <+: us'/\q'<=q)):=hid (by
       have:=SI.out;rw[show k-1=j by omega,hN]at this;exact this)
      rw[hN]at d0 d1 d2 HU2 hmj;dsimp only at d0 d1 d2 HU2 hmj;have kp:0<k:=by omega
      clear hN hj hz SI;have g0:=jf k0;have g1:=jf k1;have g2:=jf k2;have g3:=jf k3;have g4:=jf d1;have g5:=jf d2;have HG:=hid (λx:Grown wr5=>s5.call (j1b x));have LC:=hid (λx:Grown wr5=>jdd y y' c c' us us' (grow wr5 x) hmk hmj (HU.out _ (HG.out x).below) (HU2.out _ (HG.out x).below));by_cases hpre:cpl us us'=us.length
      ·have PP:=hid (jf1 us us' |>.1 hpre);rw[hpre]at LC;by_cases hq:q'<=q
       ·have SK:=hid (SI'.out.2 ⟨HV.out,HD.out,λ_=>⟨PP.out,hq⟩⟩);clear hpre;go_wp2_with fail
        refine jm (by kernel_rfl) (by kernel_rfl) ?_;repeat (go_big_quiet_step ((go_at_call 58;exact Calls.grow_of (LC.out _))))
        refine wpQuiet_nil ?_;rintro _ ⟨x,rfl⟩;have s9:=HG.out x;clear g0 g1 g2 g3 g4 g5 HG LC s5 k0 k1 k2 k3 d0 d1 d2;obtain⟨c9,_⟩:=s9.cells;obtain⟨x9,_⟩:=s9.drop.cells;generalize grow wr5 x=w9 at *;clear x;have FIN:=hid (jay HST.out SK.out);by_cases hlast:k+1=ns.length
        ·have hl9:((k:Int)+1==(ns.length:Int))=true:=by simp;omega
         by_cases ht:q=us.length
         ·have TT:Hid (tailP ns):=hid (by unfold tailP;rw[show ns.length-1=k by omega,NK.out];exact ht);subst ht;clear hlast;go_wp2_with fail
          go_roundw
          case rel=>exact⟨k+1,hlt,by go_num,FIN.out,λ_=>TT.out,s9.drop⟩
          case measure=>simp[intOf];omega
         ·have F:Hid (chainOk view ns=false):=hid (j8u λh=>ht (by unfold tailP at h;rw[show ns.length-1=k by omega,NK.out]at h;exact h));have ht':(q != (us.length:Int))=true:=by simpa using ht
          clear ht hlast;go_wp2_with fail
          go_ret
          exact⟨by rw[F.out];rfl,s9.below⟩
        ·have hl9:((k:Int)+1==(ns.length:Int))=false:=by simp;omega
         go_wp2_with fail
         go_roundw
         case rel=>exact⟨k+1,hlt,by go_num,FIN.out,λh=>absurd h hlast,s9.drop⟩
         case measure=>simp[intOf];omega
       ·have F:=hid (BAD.out (λh=>hq ((SI'.out.1 h).2.2 kp).2));clear hpre;go_wp2_with fail
        refine jm (by kernel_rfl) (by kernel_rfl) ?_;repeat (go_big_quiet_step ((go_at_call 58;exact Calls.grow_of (LC.out _))))
        refine wpQuiet_nil ?_;rintro _ ⟨x,rfl⟩;go_wp2_with fail
        go_ret
        exact⟨by rw[F.out];rfl,(HG.out x).below⟩
      ·have F:=hid (BAD.out (λh=>hpre ((jf1 us us').2 ((SI'.out.1 h).2.2 kp).1)));have hlt':cpl us us'<us.length:=by have:=jui us us';omega
       generalize cpl us us'=z at *;clear hpre;go_wp2_with fail
       refine jm (by kernel_rfl) (by kernel_rfl) ?_;repeat (go_big_quiet_step ((go_at_call 58;exact Calls.grow_of (LC.out _))))
       refine wpQuiet_nil ?_;rintro _ ⟨x,rfl⟩;go_wp2_with fail
       go_ret
       exact⟨by rw[F.out];rfl,(HG.out x).below⟩
    ·rw[jpz hk hd]at L4;have F:=hid (BAD.out (λh=>hd (SI.out.1 h).2.1));clear hd;refine jm (by kernel_rfl) (by kernel_rfl) ?_;repeat (go_big_quiet_step ((first|(go_at_call 56;exact Calls.grow_of (NV.out _))|(go_at_call 57;exact Calls.grow_same (L4.out _)))))
     refine wpQuiet_nil ?_;rintro _ ⟨x,rfl⟩;go_wp2_with fail
     go_ret
     exact⟨by rw[F.out];rfl,(HG.out x).below⟩
  ·have hkn:k=ns.length:=by omega
   have G:=hid (λh1 h2=>GOOD.out h1 h2 (by rw[<- hkn];exact HST.out) (HTL.out hkn));by_cases h2:1<=ns.length/\ns.length<=5
   ·have h2':(1:Int)<=(ns.length:Int)/\(ns.length:Int)<=5:=by omega
    have H2:=hid h2';by_cases h1:0<=view/\view<=999
    ·have H1:=hid h1;have F:=hid (G.out h1 h2);clear h1 h2 h2' hkn;go_wp2_with fail
     refine(j2f _ _ _ _ H2.out).mono ?_;rintro e w' ⟨rfl,rfl⟩;go_wp2_with fail
     refine(j2f _ _ _ _ H1.out).mono ?_;rintro e w' ⟨rfl,rfl⟩;go_wp2_with fail
     go_ret
     exact⟨by rw[F.out];rfl,s1.below⟩
    ·have H1:=hid h1;have F:=hid (j8v (ns:=ns) h1);clear h1 h2 h2' hkn;go_wp2_with fail
     refine(j2f _ _ _ _ H2.out).mono ?_;rintro e w' ⟨rfl,rfl⟩;go_wp2_with fail
     refine(j63 _ _ _ _ H1.out).mono ?_;rintro e w' ⟨rfl,rfl⟩;go_wp2_with fail
     go_ret
     exact⟨by rw[F.out];rfl,s1.below⟩
   ·have h2':¬((1:Int)<=(ns.length:Int)/\(ns.length:Int)<=5):=by omega
    have H2:=hid h2';have F:=hid (jb5 (view:=view) h2);clear h2 h2' hkn;go_wp2_with fail
    refine(j63 _ _ _ _ H2.out).mono ?_;rintro e w' ⟨rfl,rfl⟩;go_wp2_with fail
    go_ret
    exact⟨by rw[F.out];rfl,s1.below⟩
end Go.Proofs.T
