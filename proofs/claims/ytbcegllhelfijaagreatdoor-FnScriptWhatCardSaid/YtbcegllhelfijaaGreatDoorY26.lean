/-
  A part of the proof.
-/
import Derived.Test.YtbcegllhelfijaaGreatDoorY23
import Derived.Test.YtbcegllhelfijaaGreatDoorY25
set_option linter.all false
set_option maxRecDepth 100000
set_option maxHeartbeats 8000000
namespace Go.Proofs.T
open Lib (hid)
open Go.RowKit
def LineE (w:World)(a:Option Addr)(ns:List Nd)(r:Mach×List UInt8)(e:Ending)(w':World):Prop:=
 ∃(a':Option Addr) (cap':Nat) (ms:List Nd) (X:List Res),e=.returned (.tuple #[.agg #[.int .i64 r.1.1,.slice a' ms.length cap'],strB r.2])/\keys ms=r.1.2/\ms.length<=cap'/\St w w' X/\((a'=a/\ms=ns)\/∀w0 w2 Y,St w0 w2 (X++Y)->NodesAt w2 a' ms)
def GaveR (X:List Res)(v:Int)(o:Option (List Key))(num:Int)(a:Option Addr)(n cap:Nat)(b:Bool):Prop:=
 (b=false/\o=none)\/(b=true/\num=v/\∃ms,o=some (keys ms)/\n=ms.length/\n<=cap/\∀w0 w2 Y,St w0 w2 (X++Y)->NodesAt w2 a ms)
theorem jfp {w0 w:World}{a:Option Addr}{cap:Nat}{ms:List Nd}(s:St w0 w (row (.slice a ms.length cap) 60 3 ms.length (ncells ms)::nds ms)):NodesAt w a ms:=⟨j2z s.own,jfo s (by intro r hr;simp[hr])⟩
theorem j4j {w w':World}{v:Int}{o:Option (List Key)}{e:Ending}(h:GaveO w v o e w'):∃num a n cap b X,e=.returned (.tuple #[.agg #[.int .i64 num,.slice a n cap],.bool b])/\GaveR X v o num a n cap b/\St w w' X:=by
 cases o with
 | none=>
  obtain⟨a,cap,ms,rfl,hk,s⟩:=h;exact⟨_,_,_,_,_,_,rfl,.inl ⟨rfl,rfl⟩,s⟩
 | some ks=>
  obtain⟨a,cap,ms,rfl,hk,s⟩:=h;exact⟨_,_,_,_,_,_,rfl,.inr ⟨rfl,rfl,ms,by rw[hk],rfl,j66 s.own,λw0 w2 Y h2=>jfp (St.take _ Y rfl h2)⟩,s⟩
def DoneR (b:Bool)(i1:Int)(a1:Option Addr)(n1 c1:Nat)(i2:Int)(a2:Option Addr)(n2 c2:Nat)(i3:Int)(a3:Option Addr)(n3 c3:Nat)(t:List UInt8):Prop:=
 (b=true/\i3=i2/\a3=a2/\n3=n2/\c3=c2/\t=OK)\/(b=false/\i3=i1/\a3=a1/\n3=n1/\c3=c1/\t=NO)
def DoneE (b:Bool)(i1:Int)(a1:Option Addr)(n1 c1:Nat)(i2:Int)(a2:Option Addr)(n2 c2:Nat)(w:World)(e:Ending)(w':World):Prop:=
 ∃i3 a3 n3 c3 t,e=.returned (.tuple #[.agg #[.int .i64 i3,.slice a3 n3 c3],strB t])/\DoneR b i1 a1 n1 c1 i2 a2 n2 c2 i3 a3 n3 c3 t/\Below w.heap.size w w'
theorem j84 {w w4:World}{view:Int}{a:Option Addr}{cap:Nat}{ns:List Nd}{v:Int}{o:Option (List Key)}{num:Int}{a2:Option Addr}{n2 cap2:Nat}{b:Bool}{i3:Int}{a3:Option Addr}{n3 c3:Nat}{t:List UInt8}{X Y:List Res}
  (hR:GaveR X v o num a2 n2 cap2 b)(hD:DoneR b view a ns.length cap num a2 n2 cap2 i3 a3 n3 c3 t)(hc:ns.length<=cap)(s:St w w4 (X++Y)) :
  LineE w a ns (doneK (view,keys ns) v o) (.returned (.tuple #[.agg #[.int .i64 i3,.slice a3 n3 c3],strB t])) w4:=by
 rcases hD with⟨rfl,rfl,rfl,rfl,rfl,rfl⟩|⟨rfl,rfl,rfl,rfl,rfl,rfl⟩
 ·rcases hR with⟨h,_⟩|⟨_,rfl,ms,rfl,rfl,hcc,hn⟩
  ·cases h
  ·exact⟨_,_,ms,X,rfl,rfl,hcc,St.take X Y rfl s,.inr hn⟩
 ·rcases hR with⟨_,rfl⟩|⟨h,_⟩
  ·exact⟨_,_,ns,[],rfl,rfl,hc,s.below,.inl ⟨rfl,rfl⟩⟩
  ·cases h
theorem j35 (b:Bool)(i1:Int)(a1:Option Addr)(n1 c1:Nat)(i2:Int)(a2:Option Addr)(n2 c2:Nat)(w:World) :
  Calls tnp 44 #[.agg #[.int .i64 i1,.slice a1 n1 c1],.agg #[.int .i64 i2,.slice a2 n2 c2],.bool b] w (DoneE b i1 a1 n1 c1 i2 a2 n2 c2 w):=by
 cases b with
 | true=>
  have s1:=(((St.start w).alloc (.cells #[.int .i64 i1,.slice a1 n1 c1] 34)).allocAt (.cells #[.int .i64 i2,.slice a2 n2 c2] 34) (w.heap.size+1) (by simp)).allocAt (.cells #[.int .i64 i2,.slice a2 n2 c2] 34) (w.heap.size+1+1) (by simp);have FIN:=hid s1.below;clear s1;go_enter Twn.func44,Tryz.ntmps44
  go_wp2_with fail
  exact bodyPost_ret (v:=.tuple #[.agg #[.int .i64 i2,.slice a2 n2 c2],.string ⟨#[111,107,10]⟩]) (by simp[results,Tryz.results44,go_sem]) rfl ⟨_,_,_,_,OK,rfl,.inl ⟨rfl,rfl,rfl,rfl,rfl,rfl⟩,FIN.out⟩
 | false=>
  have s1:=(((St.start w).alloc (.cells #[.int .i64 i1,.slice a1 n1 c1] 34)).allocAt (.cells #[.int .i64 i2,.slice a2 n2 c2] 34) (w.heap.size+1) (by simp)).allocAt (.cells #[.int .i64 i1,.slice a1 n1 c1] 34) (w.heap.size+1+1) (by simp);have FIN:=hid s1.below;clear s1;go_enter Twn.func44,Tryz.ntmps44
  go_wp2_with fail
  exact bodyPost_ret (v:=.tuple #[.agg #[.int .i64 i1,.slice a1 n1 c1],.string ⟨#[110,111,10]⟩]) (by simp[results,Tryz.results44,go_sem]) rfl ⟨_,_,_,_,NO,rfl,.inr ⟨rfl,rfl,rfl,rfl,rfl,rfl⟩,FIN.out⟩
def oneK (m:Mach)(wd:List UInt8)(n:Int):Mach×List UInt8:=
 if wd=cmdW 1 then doneK m m.1 (passK m.2 n)else if wd=cmdW 2 then doneK m m.1 (tellK m.2 n)else if wd=cmdW 3 then doneK m (m.1+1) (dropK m.1 m.2 n)else if wd=cmdW 4 then doneK m (m.1+1) (addK m.1 m.2 n)else(m,WHAT)
theorem jh2 (view:Int)(a:Option Addr)(cap:Nat)(ns:List Nd)(wd:List UInt8)(n:Int)(w:World)(hv:chainOk view ns=true)(hc:ns.length<=cap)(hx:NodesAt w a ns) :
  Calls tnp 46 #[.agg #[.int .i64 view,.slice a ns.length cap],.string ⟨wd.toArray⟩,.int .i64 n] w (LineE w a ns (oneK (view,keys ns) wd n)):=by
 have s0:=((St.start w).alloc (.cells #[.int .i64 view,.slice a ns.length cap] 34)).allocAt (.cells #[.int .i64 0,.slice none 0 0] 34) (w.heap.size+1) (by simp);have CP:=j4e view a cap ns n _ hv hc (hx.below s0.below);have CT:=j4f view a cap ns n _ hv hc (hx.below s0.below);have CD:=j77 view a cap ns n _ hv hc (hx.below s0.below);have CA:=j8f view a cap ns n _ hv hc (hx.below s0.below);have HXC:=hid hc;obtain⟨r,hr⟩:∃r,oneK (view,keys ns) wd n=r:=⟨_,rfl⟩;have HR:=hid hr;rw[hr];have HC:=hid CP;have HT:=hid CT;have HDR:=hid CD;have HA:=hid CA;clear hv hc hx hr CP CT CD CA;go_enter Twn.func46,Tryz.ntmps46
 by_cases h1:wd=[112,97,115,115]
 ·have RR:Hid (r=doneK (view,keys ns) view (passK (keys ns) n)):=hid (by
   rw[<- HR.out,h1];rfl)
  subst h1;clear  HR;go_wp2_with fail
  refine HC.out.mono ?_;clear HC HT HDR HA;intro e w1 hg;obtain⟨num,a2,n2,cap2,b,X,rfl,hR,ss⟩:=j4j hg;have s1:=s0.join ss;have s2:=s1.alloc (.cells #[.int .i64 num,.slice a2 n2 cap2] 34);have GR:=hid hR;obtain⟨c1,_⟩:=(s2.pull (r:=box w.heap.size #[.int .i64 view,.slice a ns.length cap] 34) (by simp)).cells;clear hg hR ss s0 s1;go_wp2_with fail
  refine(j35 b view a ns.length cap num a2 n2 cap2 _).mono ?_;intro e w3 hd;obtain⟨i3,a3,n3,c3,t,rfl,hD,hb3⟩:=hd;have s3:=(s2.call hb3).drop.perm List.perm_middle;have DR:=hid hD;clear hD hb3 s2 c1;obtain⟨cR,fR⟩:=s3.cells;have s4:=(s3.set 0 (.int .i64 i3)).set 1 (.slice a3 n3 c3);have qR:=s4.cells.1;have FIN:=hid (j84 GR.out DR.out HXC.out s4.drop);rw[<- RR.out]at FIN;clear s3 s4;unfold strB at *;go_wp2_with fail
  exact bodyPost_ret (v:=.tuple #[.agg #[.int .i64 i3,.slice a3 n3 c3],.string ⟨t.toArray⟩]) (by simp[results,Tryz.results46,go_sem,qR]) rfl FIN.out
 ·have q1:(wd==[112,97,115,115])=false:=by simpa using h1
  by_cases h2:wd=[116,101,108,108]
  ·have RR:Hid (r=doneK (view,keys ns) view (tellK (keys ns) n)):=hid (by
    rw[<- HR.out,h2];rfl)
   subst h2;clear q1 h1 HR;go_wp2_with fail
   refine HT.out.mono ?_;clear HC HT HDR HA;intro e w1 hg;obtain⟨num,a2,n2,cap2,b,X,rfl,hR,ss⟩:=j4j hg;have s1:=s0.join ss;have s2:=s1.alloc (.cells #[.int .i64 num,.slice a2 n2 cap2] 34);have GR:=hid hR;obtain⟨c1,_⟩:=(s2.pull (r:=box w.heap.size #[.int .i64 view,.slice a ns.length cap] 34) (by simp)).cells;clear hg hR ss s0 s1;go_wp2_with fail
   refine(j35 b view a ns.length cap num a2 n2 cap2 _).mono ?_;intro e w3 hd;obtain⟨i3,a3,n3,c3,t,rfl,hD,hb3⟩:=hd;have s3:=(s2.call hb3).drop.perm List.perm_middle;have DR:=hid hD;clear hD hb3 s2 c1;obtain⟨cR,fR⟩:=s3.cells;have s4:=(s3.set 0 (.int .i64 i3)).set 1 (.slice a3 n3 c3);have qR:=s4.cells.1;have FIN:=hid (j84 GR.out DR.out HXC.out s4.drop);rw[<- RR.out]at FIN;clear s3 s4;unfold strB at *;go_wp2_with fail
   exact bodyPost_ret (v:=.tuple #[.agg #[.int .i64 i3,.slice a3 n3 c3],.string ⟨t.toArray⟩]) (by simp[results,Tryz.results46,go_sem,qR]) rfl FIN.out
  ·have q2:(wd==[116,101,108,108])=false:=by simpa using h2
   by_cases h3:wd=[100,114,111,112]
   ·have RR:Hid (r=doneK (view,keys ns) (view+1) (dropK view (keys ns) n)):=hid (by
     rw[<- HR.out,h3];rfl)
    subst h3;clear q1 h1 q2 h2 HR;go_wp2_with fail
    refine HDR.out.mono ?_;clear HC HT HDR HA;intro e w1 hg;obtain⟨num,a2,n2,cap2,b,X,rfl,hR,ss⟩:=j4j hg;have s1:=s0.join ss;have s2:=s1.alloc (.cells #[.int .i64 num,.slice a2 n2 cap2] 34);have GR:=hid hR;obtain⟨c1,_⟩:=(s2.pull (r:=box w.heap.size #[.int .i64 view,.slice a ns.length cap] 34) (by simp)).cells;clear hg hR ss s0 s1;go_wp2_with fail
    refine(j35 b view a ns.length cap num a2 n2 cap2 _).mono ?_;intro e w3 hd;obtain⟨i3,a3,n3,c3,t,rfl,hD,hb3⟩:=hd;have s3:=(s2.call hb3).drop.perm List.perm_middle;have DR:=hid hD;clear hD hb3 s2 c1;obtain⟨cR,fR⟩:=s3.cells;have s4:=(s3.set 0 (.int .i64 i3)).set 1 (.slice a3 n3 c3);have qR:=s4.cells.1;have FIN:=hid (j84 GR.out DR.out HXC.out s4.drop);rw[<- RR.out]at FIN;clear s3 s4;unfold strB at *;go_wp2_with fail
    exact bodyPost_ret (v:=.tuple #[.agg #[.int .i64 i3,.slice a3 n3 c3],.string ⟨t.toArray⟩]) (by simp[results,Tryz.results46,go_sem,qR]) rfl FIN.out
   ·have q3:(wd==[100,114,111,112])=false:=by simpa using h3
    by_cases h4:wd=[97,100,100]
    ·have RR:Hid (r=doneK (view,keys ns) (view+1) (addK view (keys ns) n)):=hid (by
      rw[<- HR.out,h4];rfl)
     subst h4;clear q1 h1 q2 h2 q3 h3 HR;go_wp2_with fail
     refine HA.out.mono ?_;clear HC HT HDR HA;intro e w1 hg;obtain⟨num,a2,n2,cap2,b,X,rfl,hR,ss⟩:=j4j hg;have s1:=s0.join ss;have s2:=s1.alloc (.cells #[.int .i64 num,.slice a2 n2 cap2] 34);have GR:=hid hR;obtain⟨c1,_⟩:=(s2.pull (r:=box w.heap.size #[.int .i64 view,.slice a ns.length cap] 34) (by simp)).cells;clear hg hR ss s0 s1;go_wp2_with fail
     refine(j35 b view a ns.length cap num a2 n2 cap2 _).mono ?_;intro e w3 hd;obtain⟨i3,a3,n3,c3,t,rfl,hD,hb3⟩:=hd;have s3:=(s2.call hb3).drop.perm List.perm_middle;have DR:=hid hD;clear hD hb3 s2 c1;obtain⟨cR,fR⟩:=s3.cells;have s4:=(s3.set 0 (.int .i64 i3)).set 1 (.slice a3 n3 c3);have qR:=s4.cells.1;have FIN:=hid (j84 GR.out DR.out HXC.out s4.drop);rw[<- RR.out]at FIN;clear s3 s4;unfold strB at *;go_wp2_with fail
     exact bodyPost_ret (v:=.tuple #[.agg #[.int .i64 i3,.slice a3 n3 c3],.string ⟨t.toArray⟩]) (by simp[results,Tryz.results46,go_sem,qR]) rfl FIN.out
    ·have q4:(wd==[97,100,100])=false:=by simpa using h4
     have RR:Hid (r=((view,keys ns),WHAT)):=hid (by
      rw[<- HR.out];unfold oneK;exact(if_neg (show¬wd=cmdW 1 from h1)).trans ((if_neg (show¬wd=cmdW 2 from h2)).trans ((if_neg (show¬wd=cmdW 3 from h3)).trans (if_neg (show¬wd=cmdW 4 from h4)))))
     have s1:=((St.start w).alloc (.cells #[.int .i64 view,.slice a ns.length cap] 34)).allocAt (.cells #[.int .i64 view,.slice a ns.length cap] 34) (w.heap.size+1) (by simp);have FIN:Hid (LineE w a ns r (.returned (.tuple #[.agg #[.int .i64 view,.slice a ns.length cap],.string ⟨#[119,104,97,116,10]⟩])) ((w.alloc (.cells #[.int .i64 view,.slice a ns.length cap] 34)).alloc (.cells #[.int .i64 view,.slice a ns.length cap] 34))):=hid (by
      rw[RR.out];exact⟨a,cap,ns,[],rfl,rfl,HXC.out,s1.below,.inl ⟨rfl,rfl⟩⟩)
     clear h1 h2 h3 h4 s0 s1;go_wp2_with fail
     exact bodyPost_ret (v:=.tuple #[.agg #[.int .i64 view,.slice a ns.length cap],.string ⟨#[119,104,97,116,10]⟩]) (by simp[results,Tryz.results46,go_sem]) rfl FIN.out
theorem jfh (view:Int)(a:Option Addr)(cap:Nat)(ns:List Nd)(id key:Int)(w:World)(hv:chainOk view ns=true)(hc:ns.length<=cap)(hx:NodesAt w a ns) :
  Calls tnp 45 #[.agg #[.int .i64 view,.slice a ns.length cap],.int .i64 id,.int .i64 key] w λe w'=>e=.returned (.string ⟨(readT (readAtK (keys ns) id key)).toArray⟩)/\Below w.heap.size w w':=by
 have s0:=(St.start w).alloc (.cells #[.int .i64 view,.slice a ns.length cap] 34);have hvp:=(j1p.1 (by rw[<- jt];exact hv):VP view (keys ns));have CR:=j67 view a cap ns id key _ hv hc (hx.below s0.below);have RI:=jhz hvp id key;generalize readAtK (keys ns) id key=r at *;have RIH:=hid RI;obtain⟨T,hT⟩:∃T,readT r=T:=⟨_,rfl⟩;have HT:=hid hT;rw[hT];clear RI hv hx hvp hT;go_enter Twn.func45,Tryz.ntmps45
 go_wp2_with fail
 refine CR.mono ?_;rintro e w1 ⟨rfl,hb⟩;have s1:=s0.call hb;clear hb s0 CR;rcases RIH.out with⟨n,hn9,rfl⟩|⟨n,hn9,rfl⟩|rfl|rfl
 ·have dl:=j1f n;obtain⟨x',hx⟩:∃x,[105,115,32]++Lib.decDigits n=x:=⟨_,rfl⟩;obtain⟨z,hz⟩:∃z,x'++[10]=z:=⟨_,rfl⟩;have hzl:z.length<=1000:=by rw[<- hz,<- hx];simp;omega
  obtain⟨ct1,ct2⟩:=j9b _ _ hx hz hzl;have R:Hid (T=z):=hid (by
   rw[<- HT.out];unfold readT;rw[if_pos rfl,Int.toNat_natCast,j33 (by omega),<- hz,<- hx];simp[IS])
  clear hx hz hzl;go_wp2_with fail
  refine(j2g n (by omega) _).mono ?_;rintro e w2 ⟨rfl,hb2⟩;have FIN:=hid (s1.call hb2).below;clear hb2 s1;go_wp2_with fail
  go_ret
  exact⟨by rw[R.out];rfl,FIN.out⟩
 ·have dl:=j1f n;obtain⟨x',hx⟩:∃x,[97,115,107,101,100,32]++Lib.decDigits n=x:=⟨_,rfl⟩;obtain⟨z,hz⟩:∃z,x'++[10]=z:=⟨_,rfl⟩;have hzl:z.length<=1000:=by rw[<- hz,<- hx];simp;omega
  obtain⟨ct1,ct2⟩:=j9b _ _ hx hz hzl;have R:Hid (T=z):=hid (by
   rw[<- HT.out];unfold readT;rw[if_neg (by simp),if_pos rfl,Int.toNat_natCast,j33 (by omega),<- hz,<- hx];simp[ASKED])
  clear hx hz hzl;go_wp2_with fail
  refine(j2g n (by omega) _).mono ?_;rintro e w2 ⟨rfl,hb2⟩;have FIN:=hid (s1.call hb2).below;clear hb2 s1;go_wp2_with fail
  go_ret
  exact⟨by rw[R.out];rfl,FIN.out⟩
 ·have FIN:=hid s1.below;clear s1;go_wp2_with fail
  go_ret
  exact⟨by rw[<- HT.out];rfl,FIN.out⟩
 ·have FIN:=hid s1.below;clear s1;go_wp2_with fail
  go_ret
  exact⟨by rw[<- HT.out];rfl,FIN.out⟩
theorem jpq (w:List UInt8):findC w 0 0 8=if cmdW 5=w then some 5 else if cmdW 7=w then some 7 else none:=by simp[findC,cmdN]
theorem jt3 (w:List UInt8):findC w 1 0 8=if cmdW 1=w then some 1 else if cmdW 2=w then some 2 else if cmdW 3=w then some 3 else if cmdW 4=w then some 4 else none:=by simp[findC,cmdN]
theorem jfa (w:List UInt8):findC w 2 0 8=if cmdW 0=w then some 0 else if cmdW 6=w then some 6 else none:=by simp[findC,cmdN]
theorem jpp (w:List UInt8)(n:Nat):findC w (n+3) 0 8=none:=by simp[findC,cmdN]
theorem jv7 {line w0:List UInt8}(h:cutB 32 line=[w0]):w0=line:=by
 have hn:∀c∈line,c≠32:=by
  intro c hc e;subst e;obtain⟨x,y,t,e⟩:=j7r hc;rw[e]at h;cases h
 rw[j4x hn]at h;cases h;rfl
theorem j4y {m:Mach}{line:List UInt8}{ws:List (List UInt8)}{c:Nat}(h:cutB 32 line=ws)(hc:cmdOf ws=some c):lineK m line=doK m c (ws.tail.map numL):=by
 unfold lineK lineW;rw[h,hc]
theorem jfi {m:Mach}{line:List UInt8}{ws:List (List UInt8)}(h:cutB 32 line=ws)(hc:cmdOf ws=none):lineK m line=(m,WHAT):=by
 unfold lineK lineW;rw[h,hc]
theorem jtd {m:Mach}{line w0:List UInt8}(h:cutB 32 line=[w0])(h5:line≠cmdW 5)(h7:line≠cmdW 7):lineK m line=(m,WHAT):=by
 have e:=jv7 h;subst e;refine jfi h ((jpq w0).trans ?_);rw[if_neg (show¬cmdW 5=w0 from λe=>h5 e.symm),if_neg (show¬cmdW 7=w0 from λe=>h7 e.symm)]
theorem jte {m:Mach}{line w0 w1:List UInt8}(h:cutB 32 line=[w0,w1]):lineK m line=oneK m w0 (numL w1):=by
 have f:=jt3 w0;unfold oneK;by_cases h1:cmdW 1=w0
 ·rw[if_pos h1]at f;rw[if_pos h1.symm];exact j4y h f
 ·have n1:¬w0=cmdW 1:=λe=>h1 e.symm;rw[if_neg h1]at f;rw[if_neg n1];by_cases h2:cmdW 2=w0
  ·rw[if_pos h2]at f;rw[if_pos h2.symm];exact j4y h f
  ·have n2:¬w0=cmdW 2:=λe=>h2 e.symm;rw[if_neg h2]at f;rw[if_neg n2];by_cases h3:cmdW 3=w0
   ·rw[if_pos h3]at f;rw[if_pos h3.symm];exact j4y h f
   ·have n3:¬w0=cmdW 3:=λe=>h3 e.symm;rw[if_neg h3]at f;rw[if_neg n3];by_cases h4:cmdW 4=w0
    ·rw[if_pos h4]at f;rw[if_pos h4.symm];exact j4y h f
    ·have n4:¬w0=cmdW 4:=λe=>h4 e.symm;rw[if_neg h4]at f;rw[if_neg n4];exact jfi h f
theorem jnj {m:Mach}{line w1 w2:List UInt8}(h:cutB 32 line=[cmdW 0,w1,w2]):lineK m line=doneK m m.1 (writeK m.2 (numL w1,numL w2)):=
 j4y h ((jfa (cmdW 0)).trans (if_pos rfl))
theorem jqf {m:Mach}{line w1 w2:List UInt8}(h:cutB 32 line=[cmdW 6,w1,w2]):lineK m line=(m,readT (readAtK m.2 (numL w1) (numL w2))):=
 j4y h ((jfa (cmdW 6)).trans ((if_neg (by decide)).trans (if_pos rfl)))
theorem jni {m:Mach}{line w0 w1 w2:List UInt8}(h:cutB 32 line=[w0,w1,w2])(h0:w0≠cmdW 0)(h6:w0≠cmdW 6):lineK m line=(m,WHAT):=by
 refine jfi h ((jfa w0).trans ?_);rw[if_neg (show¬cmdW 0=w0 from λe=>h0 e.symm),if_neg (show¬cmdW 6=w0 from λe=>h6 e.symm)]
theorem jqe {m:Mach}{line w0 w1 w2 w3:List UInt8}{r:List (List UInt8)}(h:cutB 32 line=w0::w1::w2::w3::r):lineK m line=(m,WHAT):=
 jfi h (jpp w0 r.length)
theorem jqg {m:Mach}{line w0:List UInt8}{r:List (List UInt8)}(h:cutB 32 line=w0::r)(h5:line≠cmdW 5)(h7:line≠cmdW 7)(h2:r.length≠1)(h0:¬(w0=cmdW 0/\r.length=2))(h6:¬(w0=cmdW 6/\r.length=2)):lineK m line=(m,WHAT):=by
 match r,h with
 | [],h=>exact jtd h h5 h7
 | [x],h=>simp at h2
 | [x,y],h=>exact jni h (λe=>h0 ⟨e,rfl⟩) (λe=>h6 ⟨e,rfl⟩)
 | x::y::z::r,h=>exact jqe h
def CutE (ws:List (List UInt8))(w:World)(e:Ending)(w':World):Prop:=
 ∃g cap,e=.returned (.slice (some ⟨g,0,none⟩) ws.length cap)/\St w w' [row (.slice (some ⟨g,0,none⟩) ws.length cap) 9 1 ws.length (ws.map strB)]
theorem jq5 (line:List UInt8)(w:World)(h:line.length<=2097152):Calls tnp 39 #[.string ⟨line.toArray⟩,.int .u8 32] w (CutE (cutB 32 line) w):=by
 refine(jff ⟨line.toArray⟩ w (by rw[show(ByteArray.mk line.toArray).size=line.length from List.size_toArray];exact h)).mono ?_;rintro e w' ⟨v,ps,rfl,hp,_,_,s⟩;have hp2:ps.map (·.data.toList)=cutB 32 line:=by simpa using hp
 have hl:ps.length=(cutB 32 line).length:=by rw[<- hp2];simp
 have hv:ps.map Value.string=(cutB 32 line).map strB:=by
  rw[<- hp2,List.map_map];refine List.map_congr_left λp _=>?_;simp[strB]
 rw[hv,hl]at s;have hne:0<(cutB 32 line).length:=List.length_pos_iff.2 (j4o 32 line);obtain⟨g,cap,rfl,_,_⟩:=s.own.form hne;exact⟨g,cap,rfl,s⟩
theorem j5l {w0 w:World}{rs:List Res}{g cap:Nat}{ws:List (List UInt8)}(s:St w0 w (row (.slice (some ⟨g,0,none⟩) ws.length cap) 9 1 ws.length (ws.map strB)::rs))(i:Nat)(hi:i<ws.length):w.cell? ⟨g,i,none⟩=some (strB ws[i]):=by
 rw[s.own.cellAt i (by omega)];simp[hi]
theorem j22 (l:List UInt8)(w:World)(h:l.length<=400):Calls tnp 43 #[.string ⟨l.toArray⟩] w λe w'=>e=.returned (.int .i64 (numL l))/\w=w':=
 jc1 ⟨l.toArray⟩ w (by rw[show(ByteArray.mk l.toArray).size=l.length from List.size_toArray];omega)
theorem jel {A R:Res}{X Y:List Res}:(X++(A::R::Y)).Perm (R::(X++(A::Y))):=by
 have h:=List.perm_middle (l₁:=X++[A]) (a:=R) (l₂:=Y);simpa using h
theorem jfg (view:Int)(a:Option Addr)(cap:Nat)(ns:List Nd)(line:List UInt8)(w:World)(hv:chainOk view ns=true)(hc:ns.length<=cap)(hx:NodesAt w a ns)(hl:line.length<=400) :
  Calls tnp 28 #[.agg #[.int .i64 view,.slice a ns.length cap],.string ⟨line.toArray⟩] w (LineE w a ns (lineK (view,keys ns) line)):=by
 have s0:=((St.start w).alloc (.cells #[.int .i64 view,.slice a ns.length cap] 34)).allocAt (.cells #[.int .i64 0,.slice none 0 0] 34) (w.heap.size+1) (by simp);obtain⟨hm,hs,h1,h5,hln⟩:=okS hv;have hvp:=(j1p.1 (by rw[<- jt];exact hv):VP view (keys ns));have CT:=hid (λW (h:Below w.heap.size w W)=>j5s hv▸j79 view a cap ns W hm hc hs (hx.below h));have CS:=hid (λW (h:Below w.heap.size w W)=>j68 view a cap ns W hv hc (hx.below h));have CW:=hid (λk y W (h:Below w.heap.size w W)=>j6r view a cap ns k y W hv hc (hx.below h));have CR:=hid (λi k W (h:Below w.heap.size w W)=>jfh view a cap ns i k W hv hc (hx.below h));have C1:=hid (λwd n W (h:Below w.heap.size w W)=>jh2 view a cap ns wd n W hv hc (hx.below h));have h64:=(j51 hvp).2.2.2;have HL:=hid (show lineK (view,keys ns) line=lineK (view,keys ns) line from rfl);obtain⟨r,hr⟩:∃r,lineK (view,keys ns) line=r:=⟨_,rfl⟩;have HR:=hid hr;rw[hr];have HC:=hid hc;clear hv hc hx hs hln hr HL hvp;go_enter Twn.func28,Tryz.ntmps28
 go_wp2_with fail
 refine(jq5 line _ (by omega)).mono ?_;intro e w1 hg;obtain⟨g,capw,rfl,ss⟩:=hg;have s1:=s0.join ss;clear ss s0;by_cases h7:line=[115,104,111,119]
 ·subst h7;have RR:Hid (r=((view,keys ns),chainC view (keys ns))):=hid (by rw[<- HR.out];rfl)
  go_upto_region 3 with fail
  obtain⟨S,hS⟩:=Mix.named (λw'=>w'.cell? ⟨w.heap.size,0,none⟩=some (.int .i64 view)/\w'.cell? ⟨w.heap.size,1,none⟩=some (.slice a ns.length cap));have HS:=hid hS;have e0:=Mix.held_cell (λw h=>((hS w).1 h).1);have e1:=Mix.held_cell (λw h=>((hS w).1 h).2);clear hS;have SO:=hid (λW rr (hr:box w.heap.size #[.int .i64 view,.slice a ns.length cap] 34∈rr) (s:St w W rr)=>by
   have a0:=cell_of_heap (o:=0) (s.pull hr).boxAt;have a1:=cell_of_heap (o:=1) (s.pull hr).boxAt;simp at a0 a1;exact(HS.out W).2 ⟨a0,a1⟩)
  have s2:=s1.drop.drew;clear s1;refine Mix.start S 4 (by kernel_rfl) ?_;generalize w1.drew=w2 at *;refine Mix.take [0,1] 3 (by kernel_rfl) (by kernel_rfl) (by kernel_rfl) (by intro c a a' w e h;exact⟨e.symm.trans h.1,h.2⟩) (SO.out _ _ (by simp) s2) ?_;intro hne;simp only[Mix.pickOps,List.filterMap_cons,List.filterMap_nil,List.getElem?_toArray,List.getElem?_cons_zero,List.getElem?_cons_succ];repeat (refine Mix.cons_form ?_;go_big_quiet_step (fail))
  refine wpQuiet_nil ?_;clear hne;refine Mix.step (i:=2) (by kernel_rfl) rfl rfl ?_;go_simp;refine(CT.out _ s2.below).mono ?_;rintro e w3 ⟨rfl,hb⟩;have s3:=s2.call hb;refine And.intro (SO.out _ _ (by simp) s3) ?_;clear hb s2;go_simp;refine Mix.step (i:=3) (by kernel_rfl) rfl rfl ?_;obtain⟨cR,fR⟩:=s3.cells;have s4:=(s3.set 0 (.int .i64 view)).set 1 (.slice a ns.length cap);have SO2:=hid (SO.out _ _ (by simp) s4);go_simp;refine And.intro SO2.out ?_;refine Mix.step (i:=4) (by kernel_rfl) rfl rfl ?_;go_simp;refine Mix.done (by kernel_rfl) ?_;have qR:=s4.cells.1;have FIN:Hid (LineE w a ns r (.returned (.tuple #[.agg #[.int .i64 view,.slice a ns.length cap],.string ⟨(chainC view (keys ns)).toArray⟩])) ((w3.setCell ⟨w.heap.size+1,0,none⟩ (.int .i64 view)).setCell ⟨w.heap.size+1,1,none⟩ (.slice a ns.length cap))):=hid (by
   rw[RR.out];exact⟨a,cap,ns,[],rfl,rfl,HC.out,s4.below,.inl ⟨rfl,rfl⟩⟩)
  clear s3 s4 cR fR;go_wp2_with fail
  exact bodyPost_ret (v:=.tuple #[.agg #[.int .i64 view,.slice a ns.length cap],.string ⟨(chainC view (keys ns)).toArray⟩]) (by simp[results,Tryz.results28,go_sem,qR]) rfl FIN.out
 ·have q7:(line==[115,104,111,119])=false:=by simpa using h7
  by_cases h5':line=[115,101,116,116,108,101]
  ·subst h5';have RR:Hid (r=((view,(settleK (keys ns)).1),STEPS++(decT (settleK (keys ns)).2++[10]))):=hid (by rw[<- HR.out];rfl);clear HR q7 h7;generalize settleK (keys ns)=sk at *;obtain⟨k1,n⟩:=sk;simp only at CS RR h64;rw[j33 (by omega)]at RR;have dl:=j1f n;obtain⟨x,hx⟩:∃x,STEPS++Lib.decDigits n=x:=⟨_,rfl⟩;obtain⟨z,hz⟩:∃z,x++[10]=z:=⟨_,rfl⟩;have hzl:z.length<=1000:=by rw[<- hz,<- hx];simp[STEPS];omega
   obtain⟨ct1,ct2⟩:=j9b _ _ hx hz hzl;simp only[STEPS]at ct1;rw[<- List.append_assoc,hx,hz]at RR;have IT:=hid (λW=>j2g n (by omega) W);clear hx hz hzl;obtain⟨c1,_⟩:=(s1.pull (r:=box w.heap.size #[.int .i64 view,.slice a ns.length cap] 34) (by simp)).cells;go_wp2_with fail
   refine(CS.out _ s1.below).mono ?_;intro e w2 hg;obtain⟨a',cap',ms,rfl,hk,ss⟩:=hg;have s2:=s1.drop.join ss;have NO:=hid (λw0 w2 Y (h:St w0 w2 ((row (.slice a' ms.length cap') 60 3 ms.length (ncells ms)::nds ms)++Y))=>jfp (St.take _ Y rfl h));have hcm:=j66 ss.own;generalize hX:row (.slice a' ms.length cap') 60 3 ms.length (ncells ms)::nds ms=X at *;have s3:=s2.alloc (.cells #[.int .i64 view,.slice a' ms.length cap'] 34);have HK:=hid hk;clear ss s1 s2 c1 hk hX;generalize hH:w2.heap.size=H at *
   go_upto_region 6 with fail
   generalize hW:w2.alloc (.cells #[.int .i64 view,.slice a' ms.length cap'] 34 (0,0))=w3 at *;obtain⟨S,hS⟩:=Mix.named (λw'=>w'.cell? ⟨H,0,none⟩=some (.int .i64 view)/\w'.cell? ⟨H,1,none⟩=some (.slice a' ms.length cap'));have HS:=hid hS;have e0:=Mix.held_cell (λw h=>((hS w).1 h).1);have e1:=Mix.held_cell (λw h=>((hS w).1 h).2);clear hS;have SO:=hid (λW rr (hr:box H #[.int .i64 view,.slice a' ms.length cap'] 34∈rr) (s:St w W rr)=>by
    have a0:=cell_of_heap (o:=0) (s.pull hr).boxAt;have a1:=cell_of_heap (o:=1) (s.pull hr).boxAt;simp at a0 a1;exact(HS.out W).2 ⟨a0,a1⟩)
   have s4:=s3.drew;clear s3 hW;refine Mix.start S 6 (by kernel_rfl) ?_;generalize w3.drew=w4 at *;refine Mix.take [0,1] 5 (by kernel_rfl) (by kernel_rfl) (by kernel_rfl) (by intro c a a' w e h;exact⟨e.symm.trans h.1,h.2⟩) (SO.out _ _ (by simp) s4) ?_;intro hne;simp only[Mix.pickOps,List.filterMap_cons,List.filterMap_nil,List.getElem?_toArray,List.getElem?_cons_zero,List.getElem?_cons_succ];repeat (refine Mix.cons_form ?_;go_big_quiet_step (fail))
   refine wpQuiet_nil ?_;clear hne;refine Mix.step (i:=2) (by kernel_rfl) rfl rfl ?_;go_simp;refine(IT.out _).mono ?_;rintro e w5 ⟨rfl,hb⟩;have s5:=s4.call hb;refine And.intro (SO.out _ _ (by simp) s5) ?_;clear hb s4;go_simp;refine Mix.take [3,4] 2 (by kernel_rfl) (by kernel_rfl) (by kernel_rfl) (by intro c a a' w e h;exact⟨e.symm.trans h.1,h.2⟩) (SO.out _ _ (by simp) s5) ?_;intro hne;simp only[Mix.pickOps,List.filterMap_cons,List.filterMap_nil,List.getElem?_toArray,List.getElem?_cons_zero,List.getElem?_cons_succ];repeat (refine Mix.cons_form ?_;go_big_quiet_step (fail))
   refine wpQuiet_nil ?_;clear hne;refine Mix.step (i:=5) (by kernel_rfl) rfl rfl ?_;have s6:=s5.perm (List.perm_middle (l₁:=box H #[.int .i64 view,.slice a' ms.length cap'] 34::X));obtain⟨cR,fR⟩:=s6.cells;have s7:=(s6.set 0 (.int .i64 view)).set 1 (.slice a' ms.length cap');have SO2:=hid (SO.out _ _ (by simp) s7);go_simp;refine And.intro SO2.out ?_;refine Mix.step (i:=6) (by kernel_rfl) rfl rfl ?_;go_simp;refine Mix.done (by kernel_rfl) ?_;have qR:=s7.cells.1;have FIN:Hid (LineE w a ns r (.returned (.tuple #[.agg #[.int .i64 view,.slice a' ms.length cap'],.string ⟨z.toArray⟩])) ((w5.setCell ⟨w.heap.size+1,0,none⟩ (.int .i64 view)).setCell ⟨w.heap.size+1,1,none⟩ (.slice a' ms.length cap'))):=hid (by
    rw[RR.out];exact⟨a',cap',ms,X,rfl,HK.out,hcm,St.take X _ rfl s7.drop.drop,.inr NO.out⟩)
   clear s5 s6 s7 cR fR;go_wp2_with fail
   exact bodyPost_ret (v:=.tuple #[.agg #[.int .i64 view,.slice a' ms.length cap'],.string ⟨z.toArray⟩]) (by simp[results,Tryz.results28,go_sem,qR]) rfl FIN.out
  ·have q5:(line==[115,101,116,116,108,101])=false:=by simpa using h5'
   have L5:line≠cmdW 5:=h5';have L7:line≠cmdW 7:=h7;have HL5:=hid L5;have HL7:=hid L7;clear L5 L7 h7 h5';have WLEN:=hid (λp (hp:p∈cutB 32 line)=>Nat.le_trans (jbn hp) hl);obtain⟨u0,r0,hws⟩:∃u0 r0,cutB 32 line=u0::r0:=by
    cases hcc:cutB 32 line with
    | nil=>exact absurd hcc (j4o 32 line)
    | cons x y=>exact⟨x,y,rfl⟩
   have HW:=hid hws;obtain⟨ws,hw2⟩:∃ws,cutB 32 line=ws:=⟨_,rfl⟩;have HW2:=hid hw2;rw[hw2]at s1 WLEN HW;rw[hw2];have w0pos:0<ws.length:=by rw[HW.out];simp
   have i0:(0:Int)<(ws.length:Int):=by omega
   have d0:=j5l s1 0 w0pos;have e00:ws[0]=u0:=by simp[HW.out]
   rw[e00]at d0;unfold strB at d0;have HL0:=hid (show ws.length=r0.length+1 by rw[HW.out];simp);clear hws hw2 e00;obtain⟨bA,hbA⟩:∃bA,decide (u0=[119,114,105,116,101]/\ws.length=3)=bA:=⟨_,rfl⟩
   go_upto_region 7 with fail
   go_cut [32] (λs32 wx=>s32=.bool bA/\wx=w1)
   case first=>
    by_cases hu:u0=[119,114,105,116,101]
    ·subst hu;by_cases h3:ws.length=3
     ·have m3:((ws.length:Int)==3)=true:=by simp;omega
      have HB:Hid (bA=true):=hid (by rw[<- hbA,decide_eq_true ⟨rfl,h3⟩]);clear hbA h3;go_wp2_with fail
      go_meet
      exact⟨by rw[HB.out],rfl⟩
     ·have m3:((ws.length:Int)==3)=false:=by simp;omega
      have HB:Hid (bA=false):=hid (by rw[<- hbA,decide_eq_false (λh=>h3 h.2)]);clear hbA h3;go_wp2_with fail
      go_meet
      exact⟨by rw[HB.out],rfl⟩
    ·have m3:(u0==[119,114,105,116,101])=false:=by simpa using hu
     have HB:Hid (bA=false):=hid (by rw[<- hbA,decide_eq_false (λh=>hu h.1)]);clear hbA hu;go_wp2_with fail
     go_meet
     exact⟨by rw[HB.out],rfl⟩
   case rest=>
    obtain⟨rfl,hwx⟩:=hcut;have hwx2:=hwx.symm;clear hwx;subst hwx2;cases bA with
    | true=>
     obtain⟨rfl,h3⟩:=of_decide_eq_true hbA;obtain⟨u1,u2,hr0⟩:∃u1 u2,r0=[u1,u2]:=by
      have:=HL0.out
      match r0,this with
      | [x,y],_=>exact⟨x,y,rfl⟩
      | [],h=>simp at h;omega
      | [x],h=>simp at h;omega
      | x::y::z::t,h=>simp at h;omega
     subst hr0;have l1:u1.length<=400:=WLEN.out _ (by rw[HW.out];simp);have l2:u2.length<=400:=WLEN.out _ (by rw[HW.out];simp);have RR:Hid (r=doneK (view,keys ns) view (writeK (keys ns) (numL u1,numL u2))):=hid (by
      rw[<- HR.out];exact jnj (HW2.out.trans HW.out))
     have WA:=hid (λW (s:St w W [row (.slice (some ⟨g,0,none⟩) ws.length capw) 9 1 ws.length (ws.map strB)])=>show W.cell? ⟨g,1,none⟩=some (.string ⟨u1.toArray⟩)/\W.cell? ⟨g,2,none⟩=some (.string ⟨u2.toArray⟩)from by
      have d1:=j5l s 1 (by omega);have d2:=j5l s 2 (by omega);have e1:ws[1]=u1:=by simp[HW.out]
      have e2:ws[2]=u2:=by simp[HW.out]
      rw[e1]at d1;rw[e2]at d2;exact⟨d1,d2⟩)
     have i1:(1:Int)<(ws.length:Int):=by omega
     have i2:(2:Int)<(ws.length:Int):=by omega
     clear hbA d0 h3 q5 q7
     go_upto_region 8 with fail
     go_cut [9,10] (λs9 s10 wx=>∃H num a2 n2 cap2 b2 X,s9=.pointer (some ⟨H,0,none⟩)/\s10=.bool b2/\GaveR X view (writeK (keys ns) (numL u1,numL u2)) num a2 n2 cap2 b2/\St w wx (box H #[.int .i64 num,.slice a2 n2 cap2] 34::(X++[row (.slice (some ⟨g,0,none⟩) ws.length capw) 9 1 ws.length (ws.map strB),box (w.heap.size+1) #[.int .i64 0,.slice none 0 0] 34,box w.heap.size #[.int .i64 view,.slice a ns.length cap] 34])))
     case first=>
      obtain⟨S,hS⟩:=Mix.named (λw'=>w'.cell? ⟨w.heap.size,0,none⟩=some (.int .i64 view)/\w'.cell? ⟨w.heap.size,1,none⟩=some (.slice a ns.length cap)/\w'.cell? ⟨g,1,none⟩=some (.string ⟨u1.toArray⟩)/\w'.cell? ⟨g,2,none⟩=some (.string ⟨u2.toArray⟩));have HS:=hid hS;have e0:=Mix.held_cell (λw h=>((hS w).1 h).1);have e1:=Mix.held_cell (λw h=>((hS w).1 h).2.1);have e2:=Mix.held_cell (λw h=>((hS w).1 h).2.2.1);have e3:=Mix.held_cell (λw h=>((hS w).1 h).2.2.2);clear hS;have SO:=hid (λW rr (hr:box w.heap.size #[.int .i64 view,.slice a ns.length cap] 34∈rr) (hr2:row (.slice (some ⟨g,0,none⟩) ws.length capw) 9 1 ws.length (ws.map strB)∈rr) (s:St w W rr)=>by
       have a0:=cell_of_heap (o:=0) (s.pull hr).boxAt;have a1:=cell_of_heap (o:=1) (s.pull hr).boxAt;simp at a0 a1;exact(HS.out W).2 ⟨a0,a1,(WA.out W (s.pull hr2)).1,(WA.out W (s.pull hr2)).2⟩)
      have s4:=s1.drew;clear s1;refine Mix.start S 16 (by kernel_rfl) ?_;generalize w1.drew=w4 at *;refine Mix.take [0,1,2,3,5,6,7] 10 (by kernel_rfl) (by kernel_rfl) (by kernel_rfl) (by intro c a a' w e h;exact⟨e.symm.trans h.1,h.2⟩) (SO.out _ _ (by simp) (by simp) s4) ?_;intro hne;simp only[Mix.pickOps,List.filterMap_cons,List.filterMap_nil,List.getElem?_toArray,List.getElem?_cons_zero,List.getElem?_cons_succ];repeat (refine Mix.cons_form ?_;go_big_quiet_step (fail))
      refine wpQuiet_nil ?_;clear hne;refine Mix.fork (i:=4) (j:=14) (by kernel_rfl) rfl rfl rfl rfl ?_ ?_
      ·go_simp;refine(j22 u1 _ (by omega)).mono ?_;rintro e wx ⟨rfl,rfl⟩;refine And.intro (SO.out _ _ (by simp) (by simp) s4) ?_;go_simp;refine Mix.fork (i:=8) (j:=14) (by kernel_rfl) rfl rfl rfl rfl ?_ ?_
       ·go_simp;refine(j22 u2 _ (by omega)).mono ?_;rintro e wx ⟨rfl,rfl⟩;refine And.intro (SO.out _ _ (by simp) (by simp) s4) ?_;go_simp;refine Mix.take [9] 7 (by kernel_rfl) (by kernel_rfl) (by kernel_rfl) (by intro c a a' w e h;exact⟨e.symm.trans h.1,h.2⟩) (SO.out _ _ (by simp) (by simp) s4) ?_;intro hne;simp only[Mix.pickOps,List.filterMap_cons,List.filterMap_nil,List.getElem?_toArray,List.getElem?_cons_zero,List.getElem?_cons_succ];repeat (refine Mix.cons_form ?_;go_big_quiet_step (fail))
        refine wpQuiet_nil ?_;clear hne;refine Mix.fork (i:=10) (j:=14) (by kernel_rfl) rfl rfl rfl rfl ?_ ?_
        ·go_simp;refine(CW.out (numL u1) (numL u2) _ s4.below).mono ?_;intro e w3 hg;obtain⟨num,a2,n2,cap2,b2,X,rfl,hR,ss⟩:=j4j hg;have GR:=hid hR;have t7:=s4.join ss;refine And.intro (SO.out _ _ (by simp) (by simp) t7) ?_;clear hg hR ss;go_simp;refine Mix.take [11,12,13] 3 (by kernel_rfl) (by kernel_rfl) (by kernel_rfl) (by intro c a a' w e h;exact⟨e.symm.trans h.1,h.2⟩) (SO.out _ _ (by simp) (by simp) t7) ?_;intro hne;simp only[Mix.pickOps,List.filterMap_cons,List.filterMap_nil,List.getElem?_toArray,List.getElem?_cons_zero,List.getElem?_cons_succ];repeat (refine Mix.cons_form ?_;go_big_quiet_step (fail))
         refine wpQuiet_nil ?_;clear hne;refine Mix.step (i:=14) (by kernel_rfl) rfl rfl ?_;have t8:=t7.alloc (.cells #[.int .i64 0,.slice none 0 0] 34);go_simp;refine And.intro (SO.out _ _ (by simp) (by simp) t8) ?_;refine Mix.step (i:=15) (by kernel_rfl) rfl rfl ?_;have t9:=t7.alloc (.cells #[.int .i64 num,.slice a2 n2 cap2] 34);have FIN:=hid t9;have SO2:=hid (SO.out _ _ (by simp) (by simp) t9);go_simp;refine And.intro SO2.out ?_;clear t8 t9;refine Mix.step (i:=16) (by kernel_rfl) rfl rfl ?_;go_simp;refine Mix.done (by kernel_rfl) ?_;go_wp2_with fail
         go_meet
         exact⟨_,num,a2,n2,cap2,b2,X,rfl,rfl,GR.out,FIN.out⟩
        ·have t7:=s4.alloc (.cells #[.int .i64 0,.slice none 0 0] 34);go_simp;refine And.intro (SO.out _ _ (by simp) (by simp) t7) ?_;refine Mix.step (i:=10) (by kernel_rfl) rfl rfl ?_;go_simp;refine(CW.out (numL u1) (numL u2) _ t7.below).mono ?_;intro e w3 hg;obtain⟨num,a2,n2,cap2,b2,X,rfl,hR,ss⟩:=j4j hg;have GR:=hid hR;have t7:=(t7.join ss).perm List.perm_middle;refine And.intro (SO.out _ _ (by simp) (by simp) t7) ?_;clear hg hR ss;go_simp;refine Mix.take [11,12,13] 2 (by kernel_rfl) (by kernel_rfl) (by kernel_rfl) (by intro c a a' w e h;exact⟨e.symm.trans h.1,h.2⟩) (SO.out _ _ (by simp) (by simp) t7) ?_;intro hne;simp only[Mix.pickOps,List.filterMap_cons,List.filterMap_nil,List.getElem?_toArray,List.getElem?_cons_zero,List.getElem?_cons_succ];repeat (refine Mix.cons_form ?_;go_big_quiet_step (fail))
         refine wpQuiet_nil ?_;clear hne;refine Mix.step (i:=15) (by kernel_rfl) rfl rfl ?_;obtain⟨c9,f9⟩:=t7.cells;have t9:=(t7.set 0 (.int .i64 num)).set 1 (.slice a2 n2 cap2);have FIN:=hid t9;have SO2:=hid (SO.out _ _ (by simp) (by simp) t9);go_simp;refine And.intro SO2.out ?_;clear c9 f9 t9;refine Mix.step (i:=16) (by kernel_rfl) rfl rfl ?_;go_simp;refine Mix.done (by kernel_rfl) ?_;go_wp2_with fail
         go_meet
         exact⟨_,num,a2,n2,cap2,b2,X,rfl,rfl,GR.out,FIN.out⟩
       ·have t6:=s4.alloc (.cells #[.int .i64 0,.slice none 0 0] 34);go_simp;refine And.intro (SO.out _ _ (by simp) (by simp) t6) ?_;refine Mix.step (i:=8) (by kernel_rfl) rfl rfl ?_;go_simp;refine(j22 u2 _ (by omega)).mono ?_;rintro e wx ⟨rfl,rfl⟩;refine And.intro (SO.out _ _ (by simp) (by simp) t6) ?_;go_simp;refine Mix.take [9] 6 (by kernel_rfl) (by kernel_rfl) (by kernel_rfl) (by intro c a a' w e h;exact⟨e.symm.trans h.1,h.2⟩) (SO.out _ _ (by simp) (by simp) t6) ?_;intro hne;simp only[Mix.pickOps,List.filterMap_cons,List.filterMap_nil,List.getElem?_toArray,List.getElem?_cons_zero,List.getElem?_cons_succ];repeat (refine Mix.cons_form ?_;go_big_quiet_step (fail))
        refine wpQuiet_nil ?_;clear hne;refine Mix.step (i:=10) (by kernel_rfl) rfl rfl ?_;go_simp;refine(CW.out (numL u1) (numL u2) _ t6.below).mono ?_;intro e w3 hg;obtain⟨num,a2,n2,cap2,b2,X,rfl,hR,ss⟩:=j4j hg;have GR:=hid hR;have t7:=(t6.join ss).perm List.perm_middle;refine And.intro (SO.out _ _ (by simp) (by simp) t7) ?_;clear hg hR ss;go_simp;refine Mix.take [11,12,13] 2 (by kernel_rfl) (by kernel_rfl) (by kernel_rfl) (by intro c a a' w e h;exact⟨e.symm.trans h.1,h.2⟩) (SO.out _ _ (by simp) (by simp) t7) ?_;intro hne;simp only[Mix.pickOps,List.filterMap_cons,List.filterMap_nil,List.getElem?_toArray,List.getElem?_cons_zero,List.getElem?_cons_succ];repeat (refine Mix.cons_form ?_;go_big_quiet_step (fail))
        refine wpQuiet_nil ?_;clear hne;refine Mix.step (i:=15) (by kernel_rfl) rfl rfl ?_;obtain⟨c9,f9⟩:=t7.cells;have t9:=(t7.set 0 (.int .i64 num)).set 1 (.slice a2 n2 cap2);have FIN:=hid t9;have SO2:=hid (SO.out _ _ (by simp) (by simp) t9);go_simp;refine And.intro SO2.out ?_;clear c9 f9 t9;refine Mix.step (i:=16) (by kernel_rfl) rfl rfl ?_;go_simp;refine Mix.done (by kernel_rfl) ?_;go_wp2_with fail
        go_meet
        exact⟨_,num,a2,n2,cap2,b2,X,rfl,rfl,GR.out,FIN.out⟩
      ·have t5:=s4.alloc (.cells #[.int .i64 0,.slice none 0 0] 34);go_simp;refine And.intro (SO.out _ _ (by simp) (by simp) t5) ?_;refine Mix.step (i:=4) (by kernel_rfl) rfl rfl ?_;go_simp;refine(j22 u1 _ (by omega)).mono ?_;rintro e wx ⟨rfl,rfl⟩;refine And.intro (SO.out _ _ (by simp) (by simp) t5) ?_;go_simp;refine Mix.step (i:=8) (by kernel_rfl) rfl rfl ?_;go_simp;refine(j22 u2 _ (by omega)).mono ?_;rintro e wx ⟨rfl,rfl⟩;refine And.intro (SO.out _ _ (by simp) (by simp) t5) ?_;go_simp;refine Mix.take [9] 6 (by kernel_rfl) (by kernel_rfl) (by kernel_rfl) (by intro c a a' w e h;exact⟨e.symm.trans h.1,h.2⟩) (SO.out _ _ (by simp) (by simp) t5) ?_;intro hne;simp only[Mix.pickOps,List.filterMap_cons,List.filterMap_nil,List.getElem?_toArray,List.getElem?_cons_zero,List.getElem?_cons_succ];repeat (refine Mix.cons_form ?_;go_big_quiet_step (fail))
       refine wpQuiet_nil ?_;clear hne;refine Mix.step (i:=10) (by kernel_rfl) rfl rfl ?_;go_simp;refine(CW.out (numL u1) (numL u2) _ t5.below).mono ?_;intro e w3 hg;obtain⟨num,a2,n2,cap2,b2,X,rfl,hR,ss⟩:=j4j hg;have GR:=hid hR;have t7:=(t5.join ss).perm List.perm_middle;refine And.intro (SO.out _ _ (by simp) (by simp) t7) ?_;clear hg hR ss;go_simp;refine Mix.take [11,12,13] 2 (by kernel_rfl) (by kernel_rfl) (by kernel_rfl) (by intro c a a' w e h;exact⟨e.symm.trans h.1,h.2⟩) (SO.out _ _ (by simp) (by simp) t7) ?_;intro hne;simp only[Mix.pickOps,List.filterMap_cons,List.filterMap_nil,List.getElem?_toArray,List.getElem?_cons_zero,List.getElem?_cons_succ];repeat (refine Mix.cons_form ?_;go_big_quiet_step (fail))
       refine wpQuiet_nil ?_;clear hne;refine Mix.step (i:=15) (by kernel_rfl) rfl rfl ?_;obtain⟨c9,f9⟩:=t7.cells;have t9:=(t7.set 0 (.int .i64 num)).set 1 (.slice a2 n2 cap2);have FIN:=hid t9;have SO2:=hid (SO.out _ _ (by simp) (by simp) t9);go_simp;refine And.intro SO2.out ?_;clear c9 f9 t9;refine Mix.step (i:=16) (by kernel_rfl) rfl rfl ?_;go_simp;refine Mix.done (by kernel_rfl) ?_;go_wp2_with fail
       go_meet
       exact⟨_,num,a2,n2,cap2,b2,X,rfl,rfl,GR.out,FIN.out⟩
     case rest=>
      clear s1;obtain⟨H,num,a2,n2,cap2,b2,X,rfl,rfl,hR,s5⟩:=hcut;have GR:=hid hR;obtain⟨c1,_⟩:=s5.cells;obtain⟨c2,_⟩:=(s5.pull (r:=box w.heap.size #[.int .i64 view,.slice a ns.length cap] 34) (by simp)).cells;clear hR;go_wp2_with fail
      refine(j35 b2 view a ns.length cap num a2 n2 cap2 _).mono ?_;intro e w6 hd;obtain⟨i3,a3,n3,c3,t,rfl,hD,hb3⟩:=hd;have s6:=(s5.call hb3).drop.perm jel;have DR:=hid hD;clear hD hb3 s5 c1 c2;obtain⟨cR,fR⟩:=s6.cells;have s7:=(s6.set 0 (.int .i64 i3)).set 1 (.slice a3 n3 c3);have qR:=s7.cells.1;have FIN:=hid (j84 GR.out DR.out HC.out s7.drop);rw[<- RR.out]at FIN;clear s6 s7;unfold strB at *;go_wp2_with fail
      exact bodyPost_ret (v:=.tuple #[.agg #[.int .i64 i3,.slice a3 n3 c3],.string ⟨t.toArray⟩]) (by simp[results,Tryz.results28,go_sem,qR]) rfl FIN.out
    | false=>
     have NA:=hid (of_decide_eq_false hbA);clear hbA;obtain⟨bB,hbB⟩:∃bB,decide (u0=[114,101,97,100]/\ws.length=3)=bB:=⟨_,rfl⟩
     go_upto_region 10 with fail
     go_cut [62] (λs62 wx=>s62=.bool bB/\wx=w1)
     case first=>
      by_cases hu:u0=[114,101,97,100]
      ·subst hu;by_cases h3:ws.length=3
       ·have m3:((ws.length:Int)==3)=true:=by simp;omega
        have HB:Hid (bB=true):=hid (by rw[<- hbB,decide_eq_true ⟨rfl,h3⟩]);clear hbB h3;go_wp2_with fail
        go_meet
        exact⟨by rw[HB.out],rfl⟩
       ·have m3:((ws.length:Int)==3)=false:=by simp;omega
        have HB:Hid (bB=false):=hid (by rw[<- hbB,decide_eq_false (λh=>h3 h.2)]);clear hbB h3;go_wp2_with fail
        go_meet
        exact⟨by rw[HB.out],rfl⟩
      ·have m3:(u0==[114,101,97,100])=false:=by simpa using hu
       have HB:Hid (bB=false):=hid (by rw[<- hbB,decide_eq_false (λh=>hu h.1)]);clear hbB hu;go_wp2_with fail
       go_meet
       exact⟨by rw[HB.out],rfl⟩
     case rest=>
      obtain⟨rfl,hwx⟩:=hcut;have hwx2:=hwx.symm;clear hwx;subst hwx2;cases bB with
      | true=>
       obtain⟨rfl,h3⟩:=of_decide_eq_true hbB;obtain⟨u1,u2,hr0⟩:∃u1 u2,r0=[u1,u2]:=by
        have:=HL0.out
        match r0,this with
        | [x,y],_=>exact⟨x,y,rfl⟩
        | [],h=>simp at h;omega
        | [x],h=>simp at h;omega
        | x::y::z::t,h=>simp at h;omega
       subst hr0;have l1:u1.length<=400:=WLEN.out _ (by rw[HW.out];simp);have l2:u2.length<=400:=WLEN.out _ (by rw[HW.out];simp);have RR:Hid (r=((view,keys ns),readT (readAtK (keys ns) (numL u1) (numL u2)))):=hid (by
        rw[<- HR.out];exact jqf (HW2.out.trans HW.out))
       have WA:=hid (λW (s:St w W [row (.slice (some ⟨g,0,none⟩) ws.length capw) 9 1 ws.length (ws.map strB)])=>show W.cell? ⟨g,1,none⟩=some (.string ⟨u1.toArray⟩)/\W.cell? ⟨g,2,none⟩=some (.string ⟨u2.toArray⟩)from by
        have d1:=j5l s 1 (by omega);have d2:=j5l s 2 (by omega);have e1:ws[1]=u1:=by simp[HW.out]
        have e2:ws[2]=u2:=by simp[HW.out]
        rw[e1]at d1;rw[e2]at d2;exact⟨d1,d2⟩)
       have i1:(1:Int)<(ws.length:Int):=by omega
       have i2:(2:Int)<(ws.length:Int):=by omega
       have CR2:=hid (λW (h:Below w.heap.size w W)=>CR.out (numL u1) (numL u2) W h);obtain⟨T,hT⟩:∃T,readT (readAtK (keys ns) (numL u1) (numL u2))=T:=⟨_,rfl⟩;rw[hT]at CR2 RR;clear hbB d0 h3 q5 q7 hT
       go_upto_region 11 with fail
       obtain⟨S,hS⟩:=Mix.named (λw'=>w'.cell? ⟨w.heap.size,0,none⟩=some (.int .i64 view)/\w'.cell? ⟨w.heap.size,1,none⟩=some (.slice a ns.length cap)/\w'.cell? ⟨g,1,none⟩=some (.string ⟨u1.toArray⟩)/\w'.cell? ⟨g,2,none⟩=some (.string ⟨u2.toArray⟩));have HS:=hid hS;have e0:=Mix.held_cell (λw h=>((hS w).1 h).1);have e1:=Mix.held_cell (λw h=>((hS w).1 h).2.1);have e2:=Mix.held_cell (λw h=>((hS w).1 h).2.2.1);have e3:=Mix.held_cell (λw h=>((hS w).1 h).2.2.2);clear hS;have SO:=hid (λW rr (hr:box w.heap.size #[.int .i64 view,.slice a ns.length cap] 34∈rr) (hr2:row (.slice (some ⟨g,0,none⟩) ws.length capw) 9 1 ws.length (ws.map strB)∈rr) (s:St w W rr)=>by
        have a0:=cell_of_heap (o:=0) (s.pull hr).boxAt;have a1:=cell_of_heap (o:=1) (s.pull hr).boxAt;simp at a0 a1;exact(HS.out W).2 ⟨a0,a1,(WA.out W (s.pull hr2)).1,(WA.out W (s.pull hr2)).2⟩)
       have s4:=s1.drew;clear s1;refine Mix.start S 12 (by kernel_rfl) ?_;generalize w1.drew=w4 at *;refine Mix.take [0,1,2,3,4,6,7,8] 5 (by kernel_rfl) (by kernel_rfl) (by kernel_rfl) (by intro c a a' w e h;exact⟨e.symm.trans h.1,h.2⟩) (SO.out _ _ (by simp) (by simp) s4) ?_;intro hne;simp only[Mix.pickOps,List.filterMap_cons,List.filterMap_nil,List.getElem?_toArray,List.getElem?_cons_zero,List.getElem?_cons_succ];repeat (refine Mix.cons_form ?_;go_big_quiet_step (fail))
       refine wpQuiet_nil ?_;clear hne;refine Mix.step (i:=5) (by kernel_rfl) rfl rfl ?_;go_simp;refine(j22 u1 _ (by omega)).mono ?_;rintro e wx ⟨rfl,rfl⟩;refine And.intro (SO.out _ _ (by simp) (by simp) s4) ?_;go_simp;refine Mix.step (i:=9) (by kernel_rfl) rfl rfl ?_;go_simp;refine(j22 u2 _ (by omega)).mono ?_;rintro e wx ⟨rfl,rfl⟩;refine And.intro (SO.out _ _ (by simp) (by simp) s4) ?_;go_simp;refine Mix.step (i:=10) (by kernel_rfl) rfl rfl ?_;go_simp;refine(CR2.out _ s4.below).mono ?_;rintro e w5 ⟨rfl,hb⟩;have s5:=s4.call hb;refine And.intro (SO.out _ _ (by simp) (by simp) s5) ?_;clear hb s4;go_simp;refine Mix.step (i:=11) (by kernel_rfl) rfl rfl ?_;obtain⟨cR,fR⟩:=s5.at1.cells;have s6:=((s5.at1.set 0 (.int .i64 view)).set 1 (.slice a ns.length cap)).at1;have SO2:=hid (SO.out _ _ (by simp) (by simp) s6);go_simp;refine And.intro SO2.out ?_;refine Mix.step (i:=12) (by kernel_rfl) rfl rfl ?_;go_simp;refine Mix.done (by kernel_rfl) ?_;have qR:=s6.at1.cells.1;have FIN:Hid (LineE w a ns r (.returned (.tuple #[.agg #[.int .i64 view,.slice a ns.length cap],.string ⟨T.toArray⟩])) ((w5.setCell ⟨w.heap.size+1,0,none⟩ (.int .i64 view)).setCell ⟨w.heap.size+1,1,none⟩ (.slice a ns.length cap))):=hid (by
        rw[RR.out];exact⟨a,cap,ns,[],rfl,rfl,HC.out,s6.below,.inl ⟨rfl,rfl⟩⟩)
       clear s5 s6 cR fR;go_wp2_with fail
       exact bodyPost_ret (v:=.tuple #[.agg #[.int .i64 view,.slice a ns.length cap],.string ⟨T.toArray⟩]) (by simp[results,Tryz.results28,go_sem,qR]) rfl FIN.out
      | false=>
       have NB:=hid (of_decide_eq_false hbB);clear hbB;by_cases h2:ws.length=2
       ·have m2:((ws.length:Int)==2)=true:=by simp;omega
        obtain⟨u1,hr0⟩:∃u1,r0=[u1]:=by
         have:=HL0.out
         match r0,this with
         | [x],_=>exact⟨x,rfl⟩
         | [],h=>simp at h;omega
         | x::y::t,h=>simp at h;omega
        subst hr0;have l1:u1.length<=400:=WLEN.out _ (by rw[HW.out];simp);have RR:Hid (r=oneK (view,keys ns) u0 (numL u1)):=hid (by
         rw[<- HR.out];exact jte (HW2.out.trans HW.out))
        have WA:=hid (λW (s:St w W [row (.slice (some ⟨g,0,none⟩) ws.length capw) 9 1 ws.length (ws.map strB)])=>show W.cell? ⟨g,0,none⟩=some (.string ⟨u0.toArray⟩)/\W.cell? ⟨g,1,none⟩=some (.string ⟨u1.toArray⟩)from by
         have d1:=j5l s 0 (by omega);have d2:=j5l s 1 (by omega);have e1:ws[0]=u0:=by simp[HW.out]
         have e2:ws[1]=u1:=by simp[HW.out]
         rw[e1]at d1;rw[e2]at d2;exact⟨d1,d2⟩)
        have i1:(1:Int)<(ws.length:Int):=by omega
        clear d0 h2 q5 q7
        go_upto_region 13 with fail
        obtain⟨S,hS⟩:=Mix.named (λw'=>w'.cell? ⟨w.heap.size,0,none⟩=some (.int .i64 view)/\w'.cell? ⟨w.heap.size,1,none⟩=some (.slice a ns.length cap)/\w'.cell? ⟨g,0,none⟩=some (.string ⟨u0.toArray⟩)/\w'.cell? ⟨g,1,none⟩=some (.string ⟨u1.toArray⟩));have HS:=hid hS;have e0:=Mix.held_cell (λw h=>((hS w).1 h).1);have e1:=Mix.held_cell (λw h=>((hS w).1 h).2.1);have e2:=Mix.held_cell (λw h=>((hS w).1 h).2.2.1);have e3:=Mix.held_cell (λw h=>((hS w).1 h).2.2.2);clear hS;have SO:=hid (λW rr (hr:box w.heap.size #[.int .i64 view,.slice a ns.length cap] 34∈rr) (hr2:row (.slice (some ⟨g,0,none⟩) ws.length capw) 9 1 ws.length (ws.map strB)∈rr) (s:St w W rr)=>by
         have a0:=cell_of_heap (o:=0) (s.pull hr).boxAt;have a1:=cell_of_heap (o:=1) (s.pull hr).boxAt;simp at a0 a1;exact(HS.out W).2 ⟨a0,a1,(WA.out W (s.pull hr2)).1,(WA.out W (s.pull hr2)).2⟩)
        have s4:=s1.drew;clear s1;refine Mix.start S 12 (by kernel_rfl) ?_;generalize w1.drew=w4 at *;refine Mix.take [0,1,2,3,4,5,6] 6 (by kernel_rfl) (by kernel_rfl) (by kernel_rfl) (by intro c a a' w e h;exact⟨e.symm.trans h.1,h.2⟩) (SO.out _ _ (by simp) (by simp) s4) ?_;intro hne;simp only[Mix.pickOps,List.filterMap_cons,List.filterMap_nil,List.getElem?_toArray,List.getElem?_cons_zero,List.getElem?_cons_succ];repeat (refine Mix.cons_form ?_;go_big_quiet_step (fail))
        refine wpQuiet_nil ?_;clear hne;refine Mix.step (i:=7) (by kernel_rfl) rfl rfl ?_;go_simp;refine(j22 u1 _ (by omega)).mono ?_;rintro e wx ⟨rfl,rfl⟩;refine And.intro (SO.out _ _ (by simp) (by simp) s4) ?_;go_simp;refine Mix.step (i:=8) (by kernel_rfl) rfl rfl ?_;go_simp;refine(C1.out u0 (numL u1) _ s4.below).mono ?_;intro e w5 hg;obtain⟨a',cap',ms,X,rfl,hk,hcm,ss,hor⟩:=hg;have s5:=s4.join ss;refine And.intro (SO.out _ _ (by simp) (by simp) s5) ?_;rw[<- RR.out]at hk ⊢;have HK:=hid hk;have HO:=hid hor;unfold strB;clear hk hor ss s4;go_simp;refine Mix.take [9,10] 2 (by kernel_rfl) (by kernel_rfl) (by kernel_rfl) (by intro c a a' w e h;exact⟨e.symm.trans h.1,h.2⟩) (SO.out _ _ (by simp) (by simp) s5) ?_;intro hne;simp only[Mix.pickOps,List.filterMap_cons,List.filterMap_nil,List.getElem?_toArray,List.getElem?_cons_zero,List.getElem?_cons_succ];repeat (refine Mix.cons_form ?_;go_big_quiet_step (fail))
        refine wpQuiet_nil ?_;clear hne;refine Mix.step (i:=11) (by kernel_rfl) rfl rfl ?_;have s6:=s5.perm jel;obtain⟨cR,fR⟩:=s6.cells;have s7:=(s6.set 0 (.int .i64 r.1.1)).set 1 (.slice a' ms.length cap');have SO2:=hid (SO.out _ _ (by simp) (by simp) s7);go_simp;refine And.intro SO2.out ?_;refine Mix.step (i:=12) (by kernel_rfl) rfl rfl ?_;go_simp;refine Mix.done (by kernel_rfl) ?_;have qR:=s7.cells.1;have FIN:Hid (LineE w a ns r (.returned (.tuple #[.agg #[.int .i64 r.1.1,.slice a' ms.length cap'],.string ⟨r.2.toArray⟩])) ((w5.setCell ⟨w.heap.size+1,0,none⟩ (.int .i64 r.1.1)).setCell ⟨w.heap.size+1,1,none⟩ (.slice a' ms.length cap'))):=hid ⟨a',cap',ms,X,rfl,HK.out,hcm,St.take X _ rfl s7.drop,HO.out⟩;clear s5 s6 s7 cR fR;go_wp2_with fail
        exact bodyPost_ret (v:=.tuple #[.agg #[.int .i64 r.1.1,.slice a' ms.length cap'],.string ⟨r.2.toArray⟩]) (by simp[results,Tryz.results28,go_sem,qR]) rfl FIN.out
       ·have m2:((ws.length:Int)==2)=false:=by simp;omega
        have RR:Hid (r=((view,keys ns),WHAT)):=hid (by
         rw[<- HR.out];have e:=HL0.out;exact jqg (HW2.out.trans HW.out) HL5.out HL7.out (by omega) (λh=>NA.out ⟨h.1,by omega⟩) (λh=>NB.out ⟨h.1,by omega⟩))
        obtain⟨cR,fR⟩:=s1.at1.cells;obtain⟨c1,_⟩:=(s1.pull (r:=box w.heap.size #[.int .i64 view,.slice a ns.length cap] 34) (by simp)).cells;have s2:=(s1.at1.set 0 (.int .i64 view)).set 1 (.slice a ns.length cap);have qR:=s2.cells.1;have FIN:Hid (LineE w a ns r (.returned (.tuple #[.agg #[.int .i64 view,.slice a ns.length cap],.string ⟨#[119,104,97,116,10]⟩])) ((w1.setCell ⟨w.heap.size+1,0,none⟩ (.int .i64 view)).setCell ⟨w.heap.size+1,1,none⟩ (.slice a ns.length cap))):=hid (by
         rw[RR.out];exact⟨a,cap,ns,[],rfl,rfl,HC.out,s2.below,.inl ⟨rfl,rfl⟩⟩)
        clear s1 s2 h2 d0;go_wp2_with fail
        exact bodyPost_ret (v:=.tuple #[.agg #[.int .i64 view,.slice a ns.length cap],.string ⟨#[119,104,97,116,10]⟩]) (by simp[results,Tryz.results28,go_sem,qR]) rfl FIN.out
theorem j8g (a:Option Addr)(cap:Nat)(w:World)(hx:IntsAt w a [1,2,3]) :
  Calls tnp 27 #[.slice a 3 cap] w (GaveChain w 0 startM.2 true):=by
 have s0:=((St.start w).alloc (.cells #[.int .i64 0,.slice none 0 0] 34)).allocAt (.cells #[.int .i64 0,.slice none 0 0] 34) (w.heap.size+1) (by simp);have s1:=s0.nilRow 60 3;obtain⟨b,off,rfl,hcell⟩:=hx.resolve_left (by simp);have HC:=hid (λW (h:Below w.heap.size w W) (k:Nat) (hk:k<3)=>(h.cell (p:=⟨b,off+k,none⟩) (jo (hcell k (by simpa using hk)))).trans (hcell k (by simpa using hk)));clear hx hcell s0;go_enter Twn.func27,Tryz.ntmps27
 go_wp2_with fail
 go_loopw [5] (λi wr=>∃(k:Nat) (a':Option Addr) (c':Nat),k<=3/\i=.int .i64 k/\St w wr [row (.slice a' k c') 60 3 k (ncells (([1,2,3].take k).map freshN)),box (w.heap.size+1) #[.int .i64 0,.slice a' k c'] 34,box w.heap.size #[.int .i64 0,.slice none 0 0] 34]) (λi _=>3-(intOf i).toNat)
 case atStart=>exact⟨0,none,0,Nat.zero_le _,rfl,s1⟩
 case round=>
  clear s1;obtain⟨k,a',c',hk,rfl,s2⟩:=hrel;by_cases hlt:k<3
  ·have c0:=HC.out _ s2.below k hlt;have i1:(0:Int)<=(k:Int):=by omega
   have i2:(k:Int)<3:=by omega
   have SN:Hid (ncells (([1,2,3].take (k+1)).map freshN)=ncells (([1,2,3].take k).map freshN)++[.int .i64 (([1,2,3]:List Int).getD k 0),.slice none 0 0,.int .i64 0]):=hid (by
    rcases(by omega:k=0\/k=1\/k=2)with rfl|rfl|rfl<;>rfl)
   have NL:Hid ((ncells (([1,2,3].take k).map freshN)).length=k*3):=hid (by rw[j1a,List.length_map,List.length_take];simp;omega);have HK:=hid (λW (h:Below w.heap.size w W)=>HC.out W h k hlt);generalize([1,2,3]:List Int).getD k 0=x at *
   go_upto_region 5 with fail
   obtain⟨S,hS⟩:=Mix.named (λw'=>w'.cell? ⟨w.heap.size+1,1,none⟩=some (.slice a' k c')/\w'.cell? ⟨b,off+k,none⟩=some (.int .i64 x));have HS:=hid hS;have e0:=Mix.held_cell (λw h=>((hS w).1 h).1);have e1:=Mix.held_cell (λw h=>((hS w).1 h).2);clear hS;have SO:=hid (λW rr (hr:box (w.heap.size+1) #[.int .i64 0,.slice a' k c'] 34∈rr) (s:St w W rr)=>by
    have a1:=cell_of_heap (o:=1) (s.pull hr).boxAt;simp at a1;exact(HS.out W).2 ⟨a1,HK.out W s.below⟩)
   have s3:=s2.drew;clear s2 c0;refine Mix.start S 10 (by kernel_rfl) ?_;generalize wr.drew=w3 at *;refine Mix.take [0,1,2,3,4,5,6] 4 (by kernel_rfl) (by kernel_rfl) (by kernel_rfl) (by intro c a a' w e h;exact⟨e.symm.trans h.1,h.2⟩) (SO.out _ _ (by simp) s3) ?_;intro hne;simp only[Mix.pickOps,List.filterMap_cons,List.filterMap_nil,List.getElem?_toArray,List.getElem?_cons_zero,List.getElem?_cons_succ];repeat (refine Mix.cons_form ?_;go_big_quiet_step (fail))
   refine wpQuiet_nil ?_;clear hne;refine Mix.step (i:=7) (by kernel_rfl) rfl rfl ?_;have s4:=s3.alloc (.cells #[.int .i64 x,.slice none 0 0,.int .i64 0] 60);have s5:=s4.at1;have o5:=s5.own;have z5:=s3.size;have NLL:=NL.out;go_simp;refine And.intro (SO.out _ _ (by simp) s4) ?_;refine Mix.step (i:=8) (by kernel_rfl) rfl rfl ?_;refine jep j3m _ _ (by rfl) w.heap.size (.slice a' k c') k (ncells (([1,2,3].take k).map freshN)) (by rfl) w3.heap.size 1 1 (by rfl) #[.int .i64 x,.slice none 0 0,.int .i64 0] 60 (0,0) (by rfl) (by simp[Value.oneCell']) (by omega) (by omega) (by omega) (heap_alloc_new w3 _) o5 (by simp;omega) ?_;intro gg cap3 w7 hown hgrow hat hl;have s7:=(s5.app (j1y _ none) hown hgrow hat hl).at1.drop;clear s3 s4 s5 hown hgrow hat hl o5 NLL;have FS:=hid (SO.out _ _ (by simp) s7);refine And.intro (.inr FS.out) ?_;go_simp;refine Mix.step (i:=9) (by kernel_rfl) rfl rfl ?_;go_simp;refine And.intro FS.out ?_;refine Mix.step (i:=10) (by kernel_rfl) rfl rfl ?_;obtain⟨cO,fO⟩:=s7.at1.cells;have s8:=(s7.at1.set 1 (.slice (some ⟨gg,0,none⟩) (k+1) cap3)).at1;go_simp;refine Mix.done (by kernel_rfl) ?_;have FIN:=hid s8;clear s7 s8 cO fO;go_wp2_with fail
   go_roundw
   case rel=>exact⟨k+1,some ⟨gg,0,none⟩,cap3,hlt,by go_num,by rw[SN.out];exact FIN.out⟩
   case measure=>simp[intOf];omega
  ·obtain rfl:k=3:=by omega
   have hcc:=j66 s2.own;have CV:=jw 0 a' c' ([1,2,3].map freshN) wr (by simp) (by simpa using hcc) (λn hn=>by
    obtain⟨x,_,rfl⟩:=List.mem_map.1 hn;exact Nat.zero_le _) ⟨j2z s2.own,λn hn=>by
     obtain⟨x,_,rfl⟩:=List.mem_map.1 hn;exact⟨.inl rfl,Nat.zero_le _⟩⟩
   rw[jl6]at CV;obtain⟨c1,_⟩:=s2.at1.cells;go_wp2_with fail
   refine CV.mono ?_;rintro e w3 ⟨rfl,hb⟩;have s3:=s2.call hb;obtain⟨c3,_⟩:=s3.at1.cells;obtain⟨r3,f3⟩:=s3.at2.cells;have s4:=(s3.at2.set 0 (.int .i64 0)).set 1 (.slice a' 3 c');have q4:=s4.cells.1;have s5:=jhg w _ [1,2,3] _ s4.drop;have FIN:=hid (gaveChain (num:=0) (ns:=[1,2,3].map freshN) (ok:=true) (s5.perm List.perm_middle) rfl je1 rfl);clear s2 s3 s4 s5 hb CV;go_wp2_with fail
   exact bodyPost_ret (v:=.tuple #[.agg #[.int .i64 0,.slice a' 3 c'],.bool true]) (by simp[results,Tryz.results27,go_sem,q4]) rfl FIN.out
end Go.Proofs.T
