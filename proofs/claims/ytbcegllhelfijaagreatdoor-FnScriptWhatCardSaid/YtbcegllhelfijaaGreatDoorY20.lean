/-
  A part of the proof.
-/
import Derived.Test.YtbcegllhelfijaaGreatDoorY19
set_option linter.all false
set_option maxRecDepth 100000
set_option maxHeartbeats 8000000
namespace Go.Proofs.T
open Lib (hid)
open Go.RowKit
theorem jho {w:World}{base:Nat}{v:Value}{e:TypeId}{size n:Nat}{xs:List Value}(h:w.ownsRow base e size v n xs):∃a cap,v=.slice a n cap:=by
 obtain⟨a,cap,e,_⟩:=j4c h;exact⟨a,cap,e⟩
theorem j9v (id done:Int)(a:Option Addr)(cap:Nat)(us:List Upd)(w:World)(hm:us.length<=100)(hx:UpdsAt w a us) :
  Calls tnp 86 #[.agg #[.int .i64 id,.slice a us.length cap,.int .i64 done]] w λe w'=>∃a' cap',e=.returned (.agg #[.int .i64 id,.slice a' us.length cap',.int .i64 done])/\St w w' [row (.slice a' us.length cap') 76 2 us.length (ucells us)]:=by
 have s0:=(((St.start w).alloc (.cells #[.int .i64 id,.slice a us.length cap,.int .i64 done] 60)).allocAt (.cells #[.int .i64 0,.slice none 0 0,.int .i64 0] 60) (w.heap.size+1) (by simp)).allocAt (.cells #[] 76) (w.heap.size+1+1) (by simp);have s1:=s0.madeRow 2 0 rfl (by simp[maxLen]) 0 (Nat.le_refl _);have o1:=s1.own;have UX:=hid (hx.below s1.below);have UL:=hid (j30 us);have z1:=s1.size;clear s0;go_enter Twn.func86,Tryz.ntmps86
 go_wp2_with ((at_builtin;refine jqi j5c (by rfl) _ _ (by rfl) w.heap.size (.slice (some ⟨w.heap.size+1+1,0,none⟩) 0 0) 0 [] (by rfl) a us.length cap (by rfl) (ucells us) UL.out (jeq us) (by omega) (by omega) UX.out o1 z1 ?_);intro v' w4 hown hgrow hat hl;rw[Nat.zero_add,List.nil_append]at hown;obtain⟨va,vc,rfl⟩:=jho hown;have s2:=(s1.appV (j1y _ none) hown hgrow hat hl).at2;obtain⟨d2,f2⟩:=s2.cells;obtain⟨r2,g2⟩:=s2.at2.cells)
 have s3:=((((s2.set 1 (.slice va us.length vc)).at2.set 0 (.int .i64 id)).set 1 (.slice va us.length vc)).set 2 (.int .i64 done));have q3:=s3.cells.1;have FIN:=hid (s3.at2.only);clear hown hgrow hat hl s1 s2 s3 o1;exact bodyPost_ret (v:=.agg #[.int .i64 id,.slice va us.length vc,.int .i64 done]) (by simp[results,Tryz.results86,go_sem,q3]) rfl ⟨va,vc,rfl,FIN.out⟩
def TookE (id done:Int)(us:List Upd)(k y:Int)(w:World)(e:Ending)(w':World):Prop:=
 ∃i2 a2 n2 c2 d2 X,e=.returned (.tuple #[.agg #[.int .i64 i2,.slice a2 n2 c2,.int .i64 d2],.bool (takeOk id us done k y)])/\TookX (takeOk id us done k y) id us done k y i2 a2 n2 c2 d2 X/\St w w' X
theorem jls {id done:Int}{us:List Upd}{k y:Int}{w w':World}(h:takeOk id us done k y=false)(hb:St w w' []):TookE id done us k y w (.returned (.tuple #[.agg #[.int .i64 0,.slice none 0 0,.int .i64 0],.bool false])) w':=by
 unfold TookE;rw[h];exact⟨0,none,0,0,0,[],rfl,⟨rfl,rfl,rfl,rfl,rfl,rfl⟩,hb⟩
theorem jry {id done:Int}{us:List Upd}{k y:Int}{w w':World}{g c:Nat}(h:takeOk id us done k y=true)(hb:St w w' [row (.slice (some ⟨g,0,none⟩) (us.length+1) c) 76 2 (us.length+1) (ucells us++[.int .i64 k,.int .i64 y])]):TookE id done us k y w (.returned (.tuple #[.agg #[.int .i64 id,.slice (some ⟨g,0,none⟩) (us.length+1) c,.int .i64 done],.bool true])) w':=by
 unfold TookE;rw[h];exact⟨id,some ⟨g,0,none⟩,us.length+1,c,done,_,rfl,⟨rfl,rfl,g,c,rfl,rfl,rfl,rfl⟩,by simpa[ucells]using hb⟩
theorem j8i (id done:Int)(a:Option Addr)(cap:Nat)(us:List Upd)(k y:Int)(w:World)(hok:nodeOk id us done=true)(hx:UpdsAt w a us) :
  Calls tnp 87 #[.agg #[.int .i64 id,.slice a us.length cap,.int .i64 done],.agg #[.int .i64 k,.int .i64 y]] w (TookE id done us k y w):=by
 have h12:us.length<=12:=(j2i.1 (j1o.1 hok).2.1).1;have s0:=(((St.start w).alloc (.cells #[.int .i64 id,.slice a us.length cap,.int .i64 done] 60)).allocAt (.cells #[.int .i64 k,.int .i64 y] 76) (w.heap.size+1) (by simp)).allocAt (.cells #[.int .i64 0,.slice none 0 0,.int .i64 0] 60) (w.heap.size+1+1) (by simp);have NV:=j27 a cap id done us _ (by omega) (hx.below s0.below);rw[hok]at NV;have L3:=hid (λW (h:Below w.heap.size w W)=>j9v id done a cap us W (by omega) (hx.below h));have TO:Hid (takeOk id us done k y=(updOk (k,y)&&decide (us.length<12))):=hid (by unfold takeOk;rw[hok];rfl);clear hok hx;go_enter Twn.func87,Tryz.ntmps87
 go_wp2_with fail
 refine NV.mono ?_;rintro e w1 ⟨rfl,hb⟩;have s1:=s0.call hb;clear NV hb s0;obtain⟨d1,_⟩:=s1.at1.cells;go_wp2_with fail
 refine(j2k _ _ _).mono ?_;rintro e w2 ⟨rfl,hb⟩;have s2:=s1.call hb;clear hb s1 d1;obtain⟨b2,_⟩:=s2.at2.cells;obtain⟨r2,f2⟩:=s2.cells;have zs:=((s2.set 0 (.int .i64 0)).set 1 (.slice none 0 0)).set 2 (.int .i64 0);have qz:=zs.cells.1;have ZB:=hid zs.below;cases hu:updOk (k,y)with
 | false=>
  have TF:Hid (takeOk id us done k y=false):=hid (by rw[TO.out,hu];rfl);clear hu zs s2;go_wp2_with fail
  exact bodyPost_ret (v:=.tuple #[.agg #[.int .i64 0,.slice none 0 0,.int .i64 0],.bool false]) (by simp[results,Tryz.results87,go_sem,qz]) rfl (jls TF.out ZB.out)
 | true=>
  by_cases hl:us.length=12
  ·have TF:Hid (takeOk id us done k y=false):=hid (by rw[TO.out,hu];simp;omega);have t1:((us.length:Int)==12)=true:=by simp;omega
   clear hu hl zs s2;go_wp2_with fail
   exact bodyPost_ret (v:=.tuple #[.agg #[.int .i64 0,.slice none 0 0,.int .i64 0],.bool false]) (by simp[results,Tryz.results87,go_sem,qz]) rfl (jls TF.out ZB.out)
  ·have TF:Hid (takeOk id us done k y=true):=hid (by rw[TO.out,hu];simp;omega);have t1:((us.length:Int)==12)=false:=by simp;omega
   have hl12:us.length<12:=by omega
   clear hu hl zs qz;go_wp2_with fail
   refine(L3.out _ s2.below).mono ?_;rintro e w3 ⟨a3,c3,rfl,ss⟩;have s3:=(s2.join ss).alloc (.cells #[.int .i64 id,.slice a3 us.length c3,.int .i64 done] 60);have s4:=s3.at1;have o4:=s4.own;have z4:=(s2.join ss).size;have lr:=(s2.join ss).at1.lt.2;have lu:=(s2.join ss).at2.lt.2;obtain⟨e3,_⟩:=s3.at3.cells;clear s2 ss r2 f2 b2;go_wp2_with ((at_builtin;refine j36 j5c (by rfl) _ _ (by rfl) w.heap.size (.slice a3 us.length c3) us.length (ucells us) (by rfl) (w3.heap.size+1) 1 1 (by rfl) #[.int .i64 k,.int .i64 y] 76 (0,0) (by rfl) (by simp[Value.oneCell']) (by omega) (by omega) (by omega) (jbu w3 _ _) (o4.alloc _) (by simp;omega) ?_);intro gg cap3 w7 hown hgrow hat hl;have s7:=(s4.app (World.grownBy_alloc _ _ none) hown hgrow hat hl).at1;obtain⟨d7,f7⟩:=s7.cells;obtain⟨r7,g7⟩:=s7.at2.cells)
   have s8:=((((s7.set 1 (.slice (some ⟨gg,0,none⟩) (us.length+1) cap3)).at2.set 0 (.int .i64 id)).set 1 (.slice (some ⟨gg,0,none⟩) (us.length+1) cap3)).set 2 (.int .i64 done));have q8:=s8.cells.1;have FIN:=hid (s8.at2.only);clear hown hgrow hat hl o4 s3 s4 s7 s8;exact bodyPost_ret (v:=.tuple #[.agg #[.int .i64 id,.slice (some ⟨gg,0,none⟩) (us.length+1) cap3,.int .i64 done],.bool true]) (by simp[results,Tryz.results87,go_sem,q8]) rfl (jry TF.out FIN.out)
def GaveC (w:World)(view:Int)(ns:List Nd)(e:Ending)(w':World):Prop:=
 ∃(a':Option Addr) (cap':Nat) (ms:List Nd),e=.returned (.agg #[.int .i64 view,.slice a' ns.length cap'])/\keys ms=keys ns/\ms.length=ns.length/\St w w' (row (.slice a' ns.length cap') 60 3 ns.length (ncells ms)::nds ms)
theorem j3n (view:Int)(a:Option Addr)(cap:Nat)(ns:List Nd)(w:World)(hm:ns.length<=5)(hs:∀i,i<ns.length->(nd ns i).us.length<=12)(hx:NodesAt w a ns) :
  Calls tnp 61 #[.agg #[.int .i64 view,.slice a ns.length cap]] w (GaveC w view ns):=by
 have s0:=(((((St.start w).alloc (.cells #[.int .i64 view,.slice a ns.length cap] 34)).allocAt (.cells #[.int .i64 0,.slice none 0 0] 34) (w.heap.size+1) (by simp)).allocAt (.cells #[.int .i64 view,.slice none 0 0] 34) (w.heap.size+1+1) (by simp)).nilRow 60 3).at1;go_enter Twn.func61,Tryz.ntmps61
 go_wp2_with fail
 go_loopw [4] (λi wr=>∃(k:Nat) (x:Option Addr) (xc:Nat) (ms:List Nd),k<=ns.length/\i=.int .i64 k/\ms.length=k/\keys ms=keys (ns.take k)/\St w wr (box (w.heap.size+1+1) #[.int .i64 view,.slice x k xc] 34::row (.slice x k xc) 60 3 k (ncells ms)::(nds ms++[box (w.heap.size+1) #[.int .i64 0,.slice none 0 0] 34,box w.heap.size #[.int .i64 view,.slice a ns.length cap] 34]))) (λi _=>ns.length-(intOf i).toNat)
 case atStart=>exact⟨0,none,0,[],Nat.zero_le _,rfl,rfl,rfl,s0⟩
 case round=>
  clear s0;obtain⟨k,x,xc,ms,hk,rfl,hml,hkey,s1⟩:=hrel;have b0:=s1.boxIn (V:=w.heap.size) (cs:=#[.int .i64 view,.slice a ns.length cap]) (t:=34) (by simp) 1 rfl;have HK:=hid hkey;have HML:=hid hml;clear hkey hml;by_cases hlt:k<ns.length
  ·obtain⟨b,off,rfl,c0,c1,c2⟩:=(hx.below s1.below).cells k hlt;have UX:=hid (λW (h:Below w.heap.size w W)=>((hx.2.below h).at hlt).1);have hul:=hs k hlt;have SN:Hid (keys (ns.take (k+1))=keys (ns.take k)++[keyOf (nd ns k)]):=hid (by rw[List.take_succ_eq_append_getElem hlt,j2u,j3o hlt];rfl);have i1:(0:Int)<=(k:Int):=by omega
   have i2:(k:Int)<(ns.length:Int):=by omega
   rcases hN:nd ns k with⟨p,y,c,us,q⟩;rw[hN]at c0 c1 c2 hul UX SN;dsimp only at c0 c1 c2 hul UX;have ND:Hid ((nd ns k).id=p/\(nd ns k).a=y/\(nd ns k).cap=c/\(nd ns k).us=us/\(nd ns k).done=q):=hid (by rw[hN];exact⟨rfl,rfl,rfl,rfl,rfl⟩);clear hN;have o1:=(s1.cells.1 1).trans (show _=some (Value.slice x k xc)from rfl);obtain⟨S,hS⟩:=Mix.named (λw'=>w'.cell? ⟨w.heap.size+1+1,1,none⟩=some (.slice x k xc)/\w'.cell? ⟨w.heap.size,1,none⟩=some (.slice (some ⟨b,off,none⟩) ns.length cap)/\w'.cell? ⟨b,off+k*3,none⟩=some (.int .i64 p)/\w'.cell? ⟨b,off+k*3+1,none⟩=some (.slice y us.length c)/\w'.cell? ⟨b,off+k*3+2,none⟩=some (.int .i64 q));have HS:=hid hS;have e0:=Mix.held_cell (λw h=>((hS w).1 h).1);have e1:=Mix.held_cell (λw h=>((hS w).1 h).2.1);have e2:=Mix.held_cell (λw h=>((hS w).1 h).2.2.1);have e3:=Mix.held_cell (λw h=>((hS w).1 h).2.2.2.1);have e4:=Mix.held_cell (λw h=>((hS w).1 h).2.2.2.2);clear hS;have CE:=hid (λW (h:Below w.heap.size w W)=>(hx.below h).cells k hlt);have SO:=hid (λW rr (hr:box w.heap.size #[.int .i64 view,.slice (some ⟨b,off,none⟩) ns.length cap] 34∈rr) (hr2:box (w.heap.size+1+1) #[.int .i64 view,.slice x k xc] 34∈rr) (s:St w W rr)=>by
    have a0:=cell_of_heap (o:=1) (s.pull hr).boxAt;have a1:=cell_of_heap (o:=1) (s.pull hr2).boxAt;simp at a0 a1;obtain⟨_,_,e,q0,q1,q2⟩:=CE.out W s.below;cases e;obtain⟨n1,n2,n3,n4,n5⟩:=ND.out;rw[n1]at q0;rw[n2,n3,n4]at q1;rw[n5]at q2;exact(HS.out W).2 ⟨a1,a0,q0,q1,q2⟩)
   have s2:=s1.drew;go_wp2_with fail
   refine Mix.start S 11 (by kernel_rfl) ?_;generalize wr.drew=w2 at *;clear c0 c1 c2 b0 o1 s1;refine Mix.take [0,1,2,3,4,5,6] 5 (by kernel_rfl) (by kernel_rfl) (by kernel_rfl) (by intro c a a' w e h;exact⟨e.symm.trans h.1,h.2⟩) (SO.out _ _ (by simp) (by simp) s2) ?_;intro hne;simp only[Mix.pickOps,List.filterMap_cons,List.filterMap_nil,List.getElem?_toArray,List.getElem?_cons_zero,List.getElem?_cons_succ];repeat (refine Mix.cons_form ?_;go_big_quiet_step (fail))
   refine wpQuiet_nil ?_;clear hne;refine Mix.step (i:=7) (by kernel_rfl) rfl rfl ?_;go_simp;refine(j9v p q y c us _ (by omega) (UX.out _ s2.below)).mono ?_;rintro e w3 ⟨a3,c3,rfl,ss⟩;have s3:=s2.join ss;refine And.intro (SO.out _ _ (by simp) (by simp) s3) ?_;go_simp;refine Mix.step (i:=8) (by kernel_rfl) rfl rfl ?_;have s4:=s3.alloc (.cells #[.int .i64 p,.slice a3 us.length c3,.int .i64 q] 60);have s5:=s4.at3;have o5:=s5.own;have z5:=s3.size;have NL:Hid ((ncells ms).length=k*3):=hid (by rw[j1a,HML.out]);go_simp;refine And.intro (SO.out _ _ (by simp) (by simp) s4) ?_;refine Mix.step (i:=9) (by kernel_rfl) rfl rfl ?_;refine jep j3m _ _ (by rfl) w.heap.size (.slice x k xc) k (ncells ms) (by rfl) w3.heap.size 1 1 (by rfl) #[.int .i64 p,.slice a3 us.length c3,.int .i64 q] 60 (0,0) (by rfl) (by simp[Value.oneCell']) (by omega) (by omega) (by omega) (heap_alloc_new w3 _) o5 (by simp;omega) ?_;intro gg cap3 w7 hown hgrow hat hl;have s7:=(s5.app (j1y _ none) hown hgrow hat hl).at1.drop;clear s3 s4 s5 ss hown hgrow hat hl o5 s2;refine And.intro (.inr (SO.out _ _ (by simp) (by simp) s7)) ?_;go_simp;refine Mix.take [10] 1 (by kernel_rfl) (by kernel_rfl) (by kernel_rfl) (by intro c a a' w e h;exact⟨e.symm.trans h.1,h.2⟩) (SO.out _ _ (by simp) (by simp) s7) ?_;intro hne;simp only[Mix.pickOps,List.filterMap_cons,List.filterMap_nil,List.getElem?_toArray,List.getElem?_cons_zero,List.getElem?_cons_succ];repeat (refine Mix.cons_form ?_;go_big_quiet_step (fail))
   refine wpQuiet_nil ?_;clear hne;refine Mix.step (i:=11) (by kernel_rfl) rfl rfl ?_;obtain⟨cO,fO⟩:=s7.at2.cells;have s8:=(s7.at2.set 1 (.slice (some ⟨gg,0,none⟩) (k+1) cap3)).perm (List.Perm.cons _ (List.Perm.cons _ (List.perm_middle (l₁:=nds ms)).symm));go_simp;refine Mix.done (by kernel_rfl) ?_;have FIN:=hid s8;clear s7 s8 cO fO;go_wp2_with fail
   go_roundw
   case rel=>exact⟨k+1,some ⟨gg,0,none⟩,cap3,ms++[⟨p,a3,c3,us,q⟩],hlt,by go_num,by simp[HML.out],by rw[SN.out,<- HK.out];simp[keys,keyOf],by
    have F:=FIN.out;rw[jat,j20];simpa[ncells,logRes]using F⟩
   case measure=>simp[intOf];omega
  ·obtain rfl:k=ns.length:=by omega
   have i3:¬((ns.length:Int)<(ns.length:Int)):=by omega
   rw[List.take_of_length_le (Nat.le_refl _)]at HK;obtain⟨cO,fO⟩:=s1.cells;have s2:=s1.perm (List.perm_middle (l₁:=box (w.heap.size+1+1) #[.int .i64 view,.slice x ns.length xc] 34::row (.slice x ns.length xc) 60 3 ns.length (ncells ms)::nds ms));obtain⟨cR,fR⟩:=s2.cells;have s3:=(s2.set 0 (.int .i64 view)).set 1 (.slice x ns.length xc);have qR:=s3.cells.1;have F:=St.take (row (.slice x ns.length xc) 60 3 ns.length (ncells ms)::nds ms) _ rfl s3.drop.drop
   trace_state
   have FIN:=hid F;clear s1 s2 s3 F;go_wp2_with fail
   exact bodyPost_ret (v:=.agg #[.int .i64 view,.slice x ns.length xc]) (by simp[results,Tryz.results61,go_sem,qR]) rfl ⟨x,xc,ms,rfl,HK.out,HML.out,by simpa using FIN.out⟩
def takeK (ks:List Key)(i:Nat)(u:Upd):Option (List Key):=if updOk u=true/\(klog ks i).length<12 then some (takeAt ks i u)else none
theorem je7:∀(ns:List Nd)(i:Nat)(n:Nd),i<ns.length->(((ncells ns).set (i*3) (.int .i64 n.id)).set (i*3+1) (.slice n.a n.us.length n.cap)).set (i*3+2) (.int .i64 n.done)=ncells (ns.set i n)
 | [],_,_,h=>by simp at h
 | m::r,0,n,_=>by simp[j1i]
 | m::r,i+1,n,h=>by
  have ih:=je7 r i n (by simpa using h);rw[j1i,show(i+1)*3+1=(i*3+1)+1+1+1 by omega,show(i+1)*3+2=(i*3+2)+1+1+1 by omega,show(i+1)*3=(i*3)+1+1+1 by omega];simp only[List.set_cons_succ,ih,j1i]
theorem jro {O G H g:Res}{A B X:List Res}{o:Res}(h:(g::A).Perm (B++[o])):(G::O::(A++(H::([g]++X)))).Perm (O::G::(B++(X++[H,o]))):=by
 refine(List.Perm.swap _ _ _).trans (List.Perm.cons _ (List.Perm.cons _ ?_));have h1:(A++(H::([g]++X))).Perm (H::(g::A)++X):=by
  refine List.perm_middle.trans (List.Perm.cons _ ?_);exact List.perm_middle
 refine h1.trans ?_;refine(List.Perm.cons _ (List.Perm.append_right X h)).trans ?_;have h2:(B++(X++[H,o])).Perm (H::(B++(X++[o]))):=by
  rw[<- List.append_assoc,<- List.append_assoc B X [o]];exact List.perm_middle
 refine List.Perm.trans ?_ h2.symm;refine List.Perm.cons _ ?_;rw[List.append_assoc];exact List.Perm.append_left B (List.perm_append_comm (l₁:=[o]) (l₂:=X))
theorem j9w (view:Int)(a:Option Addr)(cap:Nat)(ns:List Nd)(i:Nat)(k y:Int)(w:World)(hv:chainOk view ns=true)(hi:i<ns.length)(hx:NodesAt w a ns) :
  Calls tnp 63 #[.agg #[.int .i64 view,.slice a ns.length cap],.int .i64 i,.agg #[.int .i64 k,.int .i64 y]] w (GaveO w view (takeK (keys ns) i (k,y))):=by
 have s0:=(((St.start w).alloc (.cells #[.int .i64 view,.slice a ns.length cap] 34)).allocAt (.cells #[.int .i64 k,.int .i64 y] 76) (w.heap.size+1) (by simp)).allocAt (.cells #[.int .i64 0,.slice none 0 0] 34) (w.heap.size+1+1) (by simp);obtain⟨hm,hs,h1,h5,hl⟩:=okS hv;have N0:nodeOk (nd ns i).id (nd ns i).us (nd ns i).done=true:=((j1c.1 hv).2.2.1 i hi).1;obtain⟨b,off,rfl,p0,p1,p2⟩:=hx.cells i hi;have UX:=hid (λW (h:Below w.heap.size w W)=>((hx.2.below h).at hi).1);have CE:=hid (λW (h:Below w.heap.size w W)=>show W.cell? ⟨b,off+i*3,none⟩=some (.int .i64 (nd ns i).id)/\W.cell? ⟨b,off+i*3+1,none⟩=some (.slice (nd ns i).a (nd ns i).us.length (nd ns i).cap)/\W.cell? ⟨b,off+i*3+2,none⟩=some (.int .i64 (nd ns i).done)from⟨(h.cell (p:=⟨b,off+i*3,none⟩) (jo p0)).trans p0,(h.cell (p:=⟨b,off+i*3+1,none⟩) (jo p0)).trans (by simpa using p1),(h.cell (p:=⟨b,off+i*3+2,none⟩) (jo p0)).trans (by simpa using p2)⟩);have L4:=hid (λW (h:Below w.heap.size w W)=>j3n view (some ⟨b,off,none⟩) cap ns W h5 hl (hx.below h));clear hv p0 p1 p2;go_enter Twn.func63,Tryz.ntmps63
 have s1:=s0;clear s0;have hus:=hl i hi;rcases hN:nd ns i with⟨q,ya,c,us,d⟩;rw[hN]at CE UX N0 hus;dsimp only at CE UX N0 hus;obtain⟨t,ht⟩:∃t,takeOk q us d k y=t:=⟨_,rfl⟩;have NT:=hid (λW (h:Below w.heap.size w W)=>j8i q d ya c us k y W N0 (UX.out W h));unfold TookE at NT;rw[ht]at NT;have NN:=hid hN;have NT0:=hid N0;have TT:=hid ht;have hi1:(0:Int)<=(i:Int):=by omega
 have hi2:(i:Int)<(ns.length:Int):=by omega
 clear hN N0 ht
 go_upto_region 1 with fail
 generalize((w.alloc (.cells #[.int .i64 view,.slice (some ⟨b,off,none⟩) ns.length cap] 34 (0,0))).alloc (.cells #[.int .i64 k,.int .i64 y] 76 (0,0))).alloc (.cells #[.int .i64 0,.slice none 0 0] 34 (0,0))=w1 at *
 go_cut [8,9] (λs6 s7 wx=>∃H i2 a2 n2 c2 d2 X,s6=.pointer (some ⟨H,0,none⟩)/\s7=.bool t/\TookX t q us d k y i2 a2 n2 c2 d2 X/\St w wx (box H #[.int .i64 i2,.slice a2 n2 c2,.int .i64 d2] 60::(X++[box (w.heap.size+1+1) #[.int .i64 0,.slice none 0 0] 34,box (w.heap.size+1) #[.int .i64 k,.int .i64 y] 76,box w.heap.size #[.int .i64 view,.slice (some ⟨b,off,none⟩) ns.length cap] 34])))
 case first=>
  obtain⟨S,hS⟩:=Mix.named (λw'=>w'.cell? ⟨w.heap.size,1,none⟩=some (.slice (some ⟨b,off,none⟩) ns.length cap)/\w'.cell? ⟨b,off+i*3,none⟩=some (.int .i64 q)/\w'.cell? ⟨b,off+i*3+1,none⟩=some (.slice ya us.length c)/\w'.cell? ⟨b,off+i*3+2,none⟩=some (.int .i64 d)/\w'.cell? ⟨w.heap.size+1,0,none⟩=some (.int .i64 k)/\w'.cell? ⟨w.heap.size+1,1,none⟩=some (.int .i64 y));have HS:=hid hS;have e0:=Mix.held_cell (λw h=>((hS w).1 h).1);have e1:=Mix.held_cell (λw h=>((hS w).1 h).2.1);have e2:=Mix.held_cell (λw h=>((hS w).1 h).2.2.1);have e3:=Mix.held_cell (λw h=>((hS w).1 h).2.2.2.1);have e4:=Mix.held_cell (λw h=>((hS w).1 h).2.2.2.2.1);have e5:=Mix.held_cell (λw h=>((hS w).1 h).2.2.2.2.2);clear hS;have SO:=hid (λW rr (hr:box w.heap.size #[.int .i64 view,.slice (some ⟨b,off,none⟩) ns.length cap] 34∈rr) (hr2:box (w.heap.size+1) #[.int .i64 k,.int .i64 y] 76∈rr) (s:St w W rr)=>by
   have a0:=cell_of_heap (o:=1) (s.pull hr).boxAt;have a1:=cell_of_heap (o:=0) (s.pull hr2).boxAt;have a2:=cell_of_heap (o:=1) (s.pull hr2).boxAt;simp at a0 a1 a2;have a3:=CE.out W s.below;exact(HS.out W).2 ⟨a0,a3.1,a3.2.1,a3.2.2,a1,a2⟩)
  have s2:=s1.drew;refine Mix.start S 12 (by kernel_rfl) ?_;refine Mix.take [0,1,2,3,4,5] 7 (by kernel_rfl) (by kernel_rfl) (by kernel_rfl) (by intro c a a' w e h;exact⟨e.symm.trans h.1,h.2⟩) (SO.out _ _ (by simp) (by simp) s2) ?_;intro hne;simp only[Mix.pickOps,List.filterMap_cons,List.filterMap_nil,List.getElem?_toArray,List.getElem?_cons_zero,List.getElem?_cons_succ];repeat (refine Mix.cons_form ?_;go_big_quiet_step (fail))
  refine wpQuiet_nil ?_;clear hne;generalize w1.drew=wd at *;refine Mix.fork (i:=6) (j:=10) (by kernel_rfl) rfl rfl rfl rfl ?_ ?_
  ·go_simp;refine(NT.out _ s2.below).mono ?_;rintro e w3 ⟨i2,a2,n2,c2,d2,X,rfl,HT,ss⟩;have s3:=s2.join ss;refine And.intro (SO.out _ _ (by simp) (by simp) s3) ?_;go_simp;refine Mix.take [7,8,9] 3 (by kernel_rfl) (by kernel_rfl) (by kernel_rfl) (by intro c a a' w e h;exact⟨e.symm.trans h.1,h.2⟩) (SO.out _ _ (by simp) (by simp) s3) ?_;intro hne;simp only[Mix.pickOps,List.filterMap_cons,List.filterMap_nil,List.getElem?_toArray,List.getElem?_cons_zero,List.getElem?_cons_succ];repeat (refine Mix.cons_form ?_;go_big_quiet_step (fail))
   refine wpQuiet_nil ?_;clear hne;refine Mix.step (i:=10) (by kernel_rfl) rfl rfl ?_;have s4:=s3.alloc (.cells #[.int .i64 0,.slice none 0 0,.int .i64 0] 60);go_simp;refine And.intro (SO.out _ _ (by simp) (by simp) s4) ?_;refine Mix.step (i:=11) (by kernel_rfl) rfl rfl ?_;have FIN:=hid (s3.alloc (.cells #[.int .i64 i2,.slice a2 n2 c2,.int .i64 d2] 60));have SO2:=hid (SO.out _ _ (by simp) (by simp) FIN.out);go_simp;refine And.intro SO2.out ?_;clear s3 s4 ss;refine Mix.step (i:=12) (by kernel_rfl) rfl rfl ?_;go_simp;refine Mix.done (by kernel_rfl) ?_;go_wp2_with fail
   go_meet
   exact⟨_,_,_,_,_,_,_,rfl,rfl,HT,FIN.out⟩
  ·have s3:=s2.alloc (.cells #[.int .i64 0,.slice none 0 0,.int .i64 0] 60);go_simp;refine And.intro (SO.out _ _ (by simp) (by simp) s3) ?_;refine Mix.step (i:=6) (by kernel_rfl) rfl rfl ?_;go_simp;refine(NT.out _ s3.below).mono ?_;rintro e w3 ⟨i2,a2,n2,c2,d2,X,rfl,HT,ss⟩;have s4:=(s3.join ss).perm List.perm_middle;refine And.intro (SO.out _ _ (by simp) (by simp) s4) ?_;go_simp;refine Mix.take [7,8,9] 2 (by kernel_rfl) (by kernel_rfl) (by kernel_rfl) (by intro c a a' w e h;exact⟨e.symm.trans h.1,h.2⟩) (SO.out _ _ (by simp) (by simp) s4) ?_;intro hne;simp only[Mix.pickOps,List.filterMap_cons,List.filterMap_nil,List.getElem?_toArray,List.getElem?_cons_zero,List.getElem?_cons_succ];repeat (refine Mix.cons_form ?_;go_big_quiet_step (fail))
   refine wpQuiet_nil ?_;clear hne;refine Mix.step (i:=11) (by kernel_rfl) rfl rfl ?_;obtain⟨c4,f4⟩:=s4.cells;have s5:=((s4.set 0 (.int .i64 i2)).set 1 (.slice a2 n2 c2)).set 2 (.int .i64 d2);have FIN:=hid s5;have SO2:=hid (SO.out _ _ (by simp) (by simp) s5);go_simp;refine And.intro SO2.out ?_;clear s2 s3 s4 ss s5 c4 f4;refine Mix.step (i:=12) (by kernel_rfl) rfl rfl ?_;go_simp;refine Mix.done (by kernel_rfl) ?_;go_wp2_with fail
   go_meet
   exact⟨_,_,_,_,_,_,_,rfl,rfl,HT,FIN.out⟩
 case rest=>
  clear s1;obtain⟨H,i2,a2,n2,c2,d2,X,rfl,rfl,HT,s1⟩:=hcut;cases t with
  | false=>
   have FO:Hid (takeK (keys ns) i (k,y)=none):=hid (by
    unfold takeK klog;rw[j25,NN.out,if_neg];intro hc;have:=TT.out;simp only[takeOk,NT0.out,hc.1,Bool.true_and,decide_eq_false_iff_not]at this;exact this hc.2)
   obtain⟨rfl,rfl,rfl,rfl,rfl,rfl⟩:=HT;obtain⟨c3,f3⟩:=s1.at1.cells;have s2:=(s1.at1.set 0 (.int .i64 0)).set 1 (.slice none 0 0);have q2:=s2.cells.1;have FIN:=hid (j1n (view:=view) FO.out (gaveNone s2 rfl rfl rfl));clear s1 s2;go_wp2_with fail
   exact bodyPost_ret (v:=.tuple #[.agg #[.int .i64 0,.slice none 0 0],.bool false]) (by simp[results,Tryz.results63,go_sem,q2]) rfl FIN.out
  | true=>
   have TO:=TT.out;simp only[takeOk,NT0.out,Bool.true_and,Bool.and_eq_true,decide_eq_true_eq]at TO;obtain⟨dn,hdn⟩:∃dn:Int,(if i+1=ns.length then((us.length:Nat):Int)+1 else d)=dn:=⟨_,rfl⟩;have FO:Hid (takeK (keys ns) i (k,y)=some ((keys ns).set i (q,us++[(k,y)],dn))):=hid (by
    have K0:kat (keys ns) i=(q,us,d):=by rw[j25,NN.out];rfl
    unfold takeK;rw[if_pos (show _/\(klog (keys ns) i).length<12 from by unfold klog;rw[K0];exact TO)];unfold takeAt kid klog kdone;rw[K0,j17];dsimp only;rw[hdn])
   have HDN:=hid hdn;clear hdn;obtain⟨rfl,rfl,g,cap',rfl,rfl,rfl,rfl⟩:=HT;have us12:=TO.2;obtain⟨c1,_⟩:=s1.at4.cells
   go_upto_if 29 with fail
   go_cut [29] (λ_ wx=>St w wx (box H #[.int .i64 i2,.slice (some ⟨g,0,none⟩) (us.length+1) c2,.int .i64 dn] 60::([row (.slice (some ⟨g,0,none⟩) (us.length+1) c2) 76 2 (us.length+1) (ucells (us++[(k,y)]))]++[box (w.heap.size+1+1) #[.int .i64 0,.slice none 0 0] 34,box (w.heap.size+1) #[.int .i64 k,.int .i64 y] 76,box w.heap.size #[.int .i64 view,.slice (some ⟨b,off,none⟩) ns.length cap] 34])))
   case first=>
    have HD:=HDN.out;by_cases h1n:i+1=ns.length
    ·rw[if_pos h1n]at HD;subst HD;obtain⟨c2,f2⟩:=s1.cells;have e1:((i:Int)+1==(ns.length:Int))=true:=by simp;omega
     have FIN:=hid (s1.set 2 (.int .i64 ((us.length:Int)+1)));clear s1 h1n;go_wp2_with fail
     go_meet
     exact FIN.out
    ·rw[if_neg (by omega)]at HD;subst HD;have e1:((i:Int)+1==(ns.length:Int))=false:=by simp;omega
     have FIN:=hid s1;clear s1 h1n;go_wp2_with fail
     go_meet
     exact FIN.out
   case rest=>
    clear s1 c1;have s2:=hcut;clear hcut;obtain⟨cV,_⟩:=s2.at4.cells;go_wp2_with fail
    refine(L4.out _ s2.below).mono ?_;rintro e w3 ⟨G0,capG,ms,rfl,hkey,hml,ss⟩;have s3:=(s2.join ss);obtain⟨G,cG,eG,_,_⟩:=s3.own.form (by omega);cases eG;simp only[List.cons_append]at s3;have s4:=(s3.alloc (.cells #[.int .i64 view,.slice (some ⟨G,0,none⟩) ns.length capG] 34)).at1;obtain⟨cO,_⟩:=s4.at1.cells;clear ss s3 s2;generalize hO:w3.heap.size=O at *
    go_upto_region 7 with fail
    generalize hW0:w3.alloc (.cells #[.int .i64 view,.slice (some ⟨G,0,none⟩) ns.length capG] 34 (0,0))=w4 at *;have nl:(ncells ms).length=ms.length*3:=j1a _;have im:i<ms.length:=by omega
    obtain⟨z0,z1,z2⟩:=j2a ms i im;rw[<- s4.own.cellAt (i*3) (by omega)]at z0;rw[<- s4.own.cellAt (i*3+1) (by omega)]at z1;rw[<- s4.own.cellAt (i*3+2) (by omega)]at z2;have f0:=s4.own.frozenAt (i*3);have f1:=s4.own.frozenAt (i*3+1);have f2:=s4.own.frozenAt (i*3+2);obtain⟨h0,_⟩:=(s4.pull (r:=box H #[.int .i64 i2,.slice (some ⟨g,0,none⟩) (us.length+1) c2,.int .i64 dn] 60) (by simp)).cells;have s5:=(((s4.rowSet (i*3) (.int .i64 i2)).rowSet (i*3+1) (.slice (some ⟨g,0,none⟩) (us.length+1) c2)).rowSet (i*3+2) (.int .i64 dn));have e1':(us++[(k,y)]).length=us.length+1:=by simp
    have EP:=je7 ms i ⟨i2,some ⟨g,0,none⟩,c2,us++[(k,y)],dn⟩ im;simp only[e1']at EP;rw[EP]at s5;have hnp:=jqq (ns:=ms) (i:=i) (n:=⟨i2,some ⟨g,0,none⟩,c2,us++[(k,y)],dn⟩) im;simp only[logRes,e1']at hnp;have s6:=s5.perm (jro hnp);generalize hW:((w4.setCell ⟨G,i*3,none⟩ (.int .i64 i2)).setCell ⟨G,i*3+1,none⟩ (.slice (some ⟨g,0,none⟩) (us.length+1) c2)).setCell ⟨G,i*3+2,none⟩ (.int .i64 dn)=W at s6;obtain⟨cO2,cR,fR,qR,t1,q0,t0⟩:=j1u s6;have KE:Hid (keys (ms.set i ⟨i2,some ⟨g,0,none⟩,c2,us++[(k,y)],dn⟩)=(keys ns).set i (i2,us++[(k,y)],dn)):=hid (by
     rw[j6h hkey];rfl)
    have FIN:=hid (j2d (view:=view) FO.out (gaveSome t1 (by simpa using hml.symm) KE.out));clear t1 t0 q0 s5 s6 s4 hnp EP;go_wp2_with fail
    exact bodyPost_ret (v:=.tuple #[.agg #[.int .i64 view,.slice (some ⟨G,0,none⟩) ns.length capG],.bool true]) (by simp[results,Tryz.results63,go_sem,qR]) rfl FIN.out
theorem jgx {w1 w':World}{view:Int}{o:Option (List Key)}{e:Ending}(h:GaveO w1 view o e w') :
  ∃num a n cap b X,e=.returned (.tuple #[.agg #[.int .i64 num,.slice a n cap],.bool b])/\St w1 w' X/\∀w0 w2 Y,St w0 w2 (X++Y)->GaveO w0 view o (.returned (.tuple #[.agg #[.int .i64 num,.slice a n cap],.bool b])) w2:=by
 have key:∀{num ks ok},GaveChain w1 num ks ok e w'->∃a n cap X,e=.returned (.tuple #[.agg #[.int .i64 num,.slice a n cap],.bool ok])/\St w1 w' X/\∀w0 w2 Y,St w0 w2 (X++Y)->GaveChain w0 num ks ok (.returned (.tuple #[.agg #[.int .i64 num,.slice a n cap],.bool ok])) w2:=by
  rintro num ks ok ⟨a,cap,ns,rfl,hk,h⟩;refine⟨a,ns.length,cap,_,rfl,h,λw0 w2 Y h2=>⟨a,cap,ns,rfl,hk,St.take _ Y rfl h2⟩⟩
 cases o with
 | none=>
  obtain⟨a,n,cap,X,he,hs,hg⟩:=key (num:=0) (ks:=[]) (ok:=false) h;exact⟨0,a,n,cap,false,X,he,hs,λw0 w2 Y h2=>hg w0 w2 Y h2⟩
 | some ks=>
  obtain⟨a,n,cap,X,he,hs,hg⟩:=key (num:=view) (ks:=ks) (ok:=true) h;exact⟨view,a,n,cap,true,X,he,hs,λw0 w2 Y h2=>hg w0 w2 Y h2⟩
theorem j6r (view:Int)(a:Option Addr)(cap:Nat)(ns:List Nd)(k y:Int)(w:World)(hv:chainOk view ns=true)(hc:ns.length<=cap)(hx:NodesAt w a ns) :
  Calls tnp 42 #[.agg #[.int .i64 view,.slice a ns.length cap],.agg #[.int .i64 k,.int .i64 y]] w (GaveO w view (writeK (keys ns) (k,y))):=by
 have s0:=(((St.start w).alloc (.cells #[.int .i64 view,.slice a ns.length cap] 34)).allocAt (.cells #[.int .i64 k,.int .i64 y] 76) (w.heap.size+1) (by simp)).allocAt (.cells #[.int .i64 0,.slice none 0 0] 34) (w.heap.size+1+1) (by simp);obtain⟨hm,hs,h1,h5,hl⟩:=okS hv;have HV:=hid hv;have CV:=jw view a cap ns _ hm hc hs (hx.below s0.below);have TK:=hid (λW (h:Below w.heap.size w W)=>j9w view a cap ns 0 k y W hv h1 (hx.below h));rw[hv]at CV;change Hid (∀W,Below w.heap.size w W->Calls tnp 63 #[.agg #[.int .i64 view,.slice a ns.length cap],.int .i64 0,.agg #[.int .i64 k,.int .i64 y]] W (GaveO W view (writeK (keys ns) (k,y))))at TK;generalize writeK (keys ns) (k,y)=o at *;clear hv hx hs hl;go_enter Twn.func42,Tryz.ntmps42
 go_wp2_with fail
 refine CV.mono ?_;rintro e w1 ⟨rfl,hb⟩;have s1:=s0.call hb;clear s0 hb CV;obtain⟨c1,_⟩:=s1.at1.cells;obtain⟨c2,_⟩:=s1.at2.cells;go_wp2_with fail
 refine(TK.out _ s1.below).mono ?_;intro e w2 hg;obtain⟨num,a2,n2,cap2,b2,X,rfl,ss,hg⟩:=jgx hg;have s2:=(s1.join ss).perm List.perm_middle;have G:=hid hg;clear hg s1 ss c1 c2;obtain⟨c3,f3⟩:=s2.cells;have s3:=(s2.set 0 (.int .i64 num)).set 1 (.slice a2 n2 cap2);have q3:=s3.cells.1;have FIN:=hid (G.out _ _ _ s3.drop);clear s2 s3;go_wp2_with fail
 exact bodyPost_ret (v:=.tuple #[.agg #[.int .i64 num,.slice a2 n2 cap2],.bool b2]) (by simp[results,Tryz.results42,go_sem,q3]) rfl FIN.out
theorem jh7 (x:Int)(n:Nat)(h:1<=n):decide (0<=x/\x<=(n:Int)-2)=linkOk x n:=by
 unfold linkOk;rw[decide_eq_decide];omega
theorem j4e (view:Int)(a:Option Addr)(cap:Nat)(ns:List Nd)(at_:Int)(w:World)(hv:chainOk view ns=true)(hc:ns.length<=cap)(hx:NodesAt w a ns) :
  Calls tnp 65 #[.agg #[.int .i64 view,.slice a ns.length cap],.int .i64 at_] w (GaveO w view (passK (keys ns) at_)):=by
 have s0:=((St.start w).alloc (.cells #[.int .i64 view,.slice a ns.length cap] 34)).allocAt (.cells #[.int .i64 0,.slice none 0 0] 34) (w.heap.size+1) (by simp);obtain⟨hm,hs,h1,h5,hl⟩:=okS hv;have CV:=jw view a cap ns _ hm hc hs (hx.below s0.below);rw[hv]at CV;have VPK:VP view (keys ns):=j1p.1 (by rw[<- jt];exact hv);have IN:=hid (λW=>j6i at_ 0 ((ns.length:Int)-2) W);rw[jh7 at_ ns.length h1]at IN;cases hk:linkOk at_ ns.length with
 | false=>
  clear VPK hv;have FO:=hid (jhq (ks:=keys ns) (x:=at_) (by rw[j17];exact hk));rw[hk]at IN;clear hk;go_enter Twn.func65,Tryz.ntmps65
  go_wp2_with fail
  refine CV.mono ?_;rintro e w1 ⟨rfl,hb⟩;have s1:=s0.call hb;clear s0 hb CV;obtain⟨c1,_⟩:=s1.at1.cells;go_wp2_with fail
  refine(IN.out _).mono ?_;rintro e w2 ⟨rfl,rfl⟩;obtain⟨c3,f3⟩:=s1.cells;have s2:=(s1.set 0 (.int .i64 0)).set 1 (.slice none 0 0);have q2:=s2.cells.1;have FIN:=hid (j1n (view:=view) FO.out (gaveNone s2 rfl rfl rfl));clear s1 s2;go_wp2_with fail
  exact bodyPost_ret (v:=.tuple #[.agg #[.int .i64 0,.slice none 0 0],.bool false]) (by simp[results,Tryz.results65,go_sem,q2]) rfl FIN.out
 | true=>
  rw[hk]at IN;obtain⟨k,rfl⟩:∃k:Nat,at_=k:=⟨at_.toNat,by simp[linkOk]at hk;omega⟩;have hk1:k+1<ns.length:=by simp[linkOk]at hk;omega
  have FK:=hid (jau (ks:=keys ns) k);have LK:klog (keys ns) k=(nd ns k).us:=by unfold klog;rw[j25];rfl
  have LM:klog (keys ns) (k+1)=(nd ns (k+1)).us:=by unfold klog;rw[j25];rfl
  have TK:Hid (passN (keys ns) k=if(nd ns k).us.length≠(nd ns (k+1)).us.length then some (takeAt (keys ns) (k+1) ((nd ns k).us.getD (nd ns (k+1)).us.length (0,0)))else none):=hid (by
   unfold passN;rw[j17,LK,LM];simp only[hk1,true_and])
  have PN:=hid (λh=>jce VPK (i:=k) (by rw[j17];exact hk1) h);have L12:Hid (∀u,takeK (keys ns) (k+1) u=if updOk u=true/\(nd ns (k+1)).us.length<12 then some (takeAt (keys ns) (k+1) u)else none):=hid (λu=>by unfold takeK;rw[LM]);rw[LK,LM]at PN;have hl0:=hl k (by omega);clear hk VPK LK LM;have L4:=hid (λu1 u2 W (h:Below w.heap.size w W)=>j9w view a cap ns (k+1) u1 u2 W hv hk1 (hx.below h));obtain⟨m,hkm⟩:∃m,k+1=m:=⟨_,rfl⟩;rw[hkm]at TK hk1 PN L4 L12;have em:(k:Int)+1=(m:Int):=by omega
  have hk0:k<ns.length:=by omega
  have i1:(0:Int)<=(k:Int):=by omega
  have i2:(k:Int)<(ns.length:Int):=by omega
  have j1:(0:Int)<=(m:Int):=by omega
  have j2:(m:Int)<(ns.length:Int):=by omega
  obtain⟨b,off,rfl,p0,p1,p2⟩:=(hx.below s0.below).cells k hk0;obtain⟨b',off',e',r0,r1,r2⟩:=(hx.below s0.below).cells m hk1;cases e';have UK:=hid (λW (h:Below w.heap.size w W)=>((hx.2.below h).at hk0).1);have CE:=hid (λW (h:Below w.heap.size w W)=>(hx.below h).cells k hk0);have CF:=hid (λW (h:Below w.heap.size w W)=>(hx.below h).cells m hk1);clear p0 p1 p2 r0 r1 r2 hv;rcases hNk:nd ns k with⟨id1,a1,c1,us,d1⟩;rcases hNm:nd ns m with⟨id2,a2,c2,vs,d2⟩;rw[hNk]at UK TK CE PN hl0;rw[hNm]at TK CF PN L12;dsimp only at UK TK CE CF PN hl0 L12;clear hNk hNm;go_enter Twn.func65,Tryz.ntmps65
  go_wp2_with fail
  refine CV.mono ?_;rintro e w1 ⟨rfl,hb⟩;have s1:=s0.call hb;clear s0 hb CV;obtain⟨c1',_⟩:=s1.at1.cells;go_wp2_with fail
  refine(IN.out _).mono ?_;rintro e w2 ⟨rfl,rfl⟩;have s2:=s1;clear s1;obtain⟨b0,off0,e',p0,p1,p2⟩:=CE.out _ s2.below;cases e';obtain⟨b0,off0,e',r0,r1,r2⟩:=CF.out _ s2.below;cases e';by_cases hne:us.length=vs.length
  ·have FO:Hid (passK (keys ns) (k:Int)=none):=hid (by rw[FK.out,TK.out,if_neg (by simp[hne])]);have hne':((us.length:Int)==(vs.length:Int))=true:=by simp[hne]
   have hne2:((vs.length:Int)==(us.length:Int))=true:=by simp[hne]
   obtain⟨c1,f1⟩:=s2.cells;have s3:=(s2.set 0 (.int .i64 0)).set 1 (.slice none 0 0);have q2:=s3.cells.1;have FIN:=hid (j1n (view:=view) FO.out (gaveNone s3 rfl rfl rfl));clear s2 s3;go_wp2_with fail
   exact bodyPost_ret (v:=.tuple #[.agg #[.int .i64 0,.slice none 0 0],.bool false]) (by simp[results,Tryz.results65,go_sem,q2]) rfl FIN.out
  ·have hne':((us.length:Int)==(vs.length:Int))=false:=by simp;omega
   have hne2:((vs.length:Int)==(us.length:Int))=false:=by simp;omega
   obtain⟨hlt,hpre,_⟩:=PN.out hne;obtain⟨uk,uy,hu⟩:∃p q,us[vs.length]'hlt=(p,q):=⟨_,_,rfl⟩;have hgd:us.getD vs.length (0,0)=(uk,uy):=by rw[<- hu];simp[hlt]
   have FO:Hid (passK (keys ns) (k:Int)=takeK (keys ns) m (uk,uy)):=hid (by
    have e:=FK.out.trans (TK.out.trans (if_pos hne));rw[e,hgd,L12.out,if_pos];have h3:=(PN.out hne).2.2;rw[hgd]at h3;exact⟨h3,by omega⟩)
   have L5:=hid (λW (h:Below w.heap.size w W)=>FO.out▸L4.out uk uy W h);have RB:=hid (λW (h:Below w.heap.size w W)=>(UK.out W h).cells vs.length hlt);obtain⟨gb,goff,rfl,t0,t1⟩:=RB.out _ s2.below;have j3:(0:Int)<=(vs.length:Int):=by omega
   have j4:(vs.length:Int)<(us.length:Int):=by omega
   rw[hu]at RB;clear hgd hu t0 t1;generalize passK (keys ns) (k:Int)=o at *
   go_upto_region 6 with fail
   obtain⟨S,hS⟩:=Mix.named (λw'=>w'.cell? ⟨w.heap.size,0,none⟩=some (.int .i64 view)/\w'.cell? ⟨w.heap.size,1,none⟩=some (.slice (some ⟨b,off,none⟩) ns.length cap)/\w'.cell? ⟨b,off+k*3+1,none⟩=some (.slice (some ⟨gb,goff,none⟩) us.length c1)/\w'.cell? ⟨gb,goff+vs.length*2,none⟩=some (.int .i64 uk)/\w'.cell? ⟨gb,goff+vs.length*2+1,none⟩=some (.int .i64 uy));have HS:=hid hS;have e0:=Mix.held_cell (λw h=>((hS w).1 h).1);have e1:=Mix.held_cell (λw h=>((hS w).1 h).2.1);have e2:=Mix.held_cell (λw h=>((hS w).1 h).2.2.1);have e3:=Mix.held_cell (λw h=>((hS w).1 h).2.2.2.1);have e4:=Mix.held_cell (λw h=>((hS w).1 h).2.2.2.2);clear hS;have SO:=hid (λW rr (hr:box w.heap.size #[.int .i64 view,.slice (some ⟨b,off,none⟩) ns.length cap] 34∈rr) (s:St w W rr)=>by
    have a0:=cell_of_heap (o:=0) (s.pull hr).boxAt;have a1:=cell_of_heap (o:=1) (s.pull hr).boxAt;simp at a0 a1;obtain⟨_,_,e,q0,q1,q2⟩:=CE.out W s.below;cases e;obtain⟨_,_,e,q3,q4⟩:=RB.out W s.below;cases e;exact(HS.out W).2 ⟨a0,a1,q1,q3,q4⟩)
   have s4:=s2.drew;clear c1' p0 p1 p2 r0 r1 r2 s2;refine Mix.start S 15 (by kernel_rfl) ?_;generalize w1.drew=w5 at *;refine Mix.take [0,1,2,3,4,5,6,7,8,9,10,11] 5 (by kernel_rfl) (by kernel_rfl) (by kernel_rfl) (by intro c a a' w e h;exact⟨e.symm.trans h.1,h.2⟩) (SO.out _ _ (by simp) s4) ?_;intro hne;simp only[Mix.pickOps,List.filterMap_cons,List.filterMap_nil,List.getElem?_toArray,List.getElem?_cons_zero,List.getElem?_cons_succ];repeat (refine Mix.cons_form ?_;go_big_quiet_step (fail))
   refine wpQuiet_nil ?_;clear hne;refine Mix.step (i:=12) (by kernel_rfl) rfl rfl ?_;go_simp;refine(L5.out _ s4.below).mono ?_;intro e w6 hg;obtain⟨num,a2',n2,cap2,b2,X,rfl,ss,hg⟩:=jgx hg;have s5:=s4.join ss;have G:=hid hg;refine And.intro (SO.out _ _ (by simp) s5) ?_;go_simp;clear ss s4 hg;refine Mix.take [13,14] 2 (by kernel_rfl) (by kernel_rfl) (by kernel_rfl) (by intro c a a' w e h;exact⟨e.symm.trans h.1,h.2⟩) (SO.out _ _ (by simp) s5) ?_;intro hne;simp only[Mix.pickOps,List.filterMap_cons,List.filterMap_nil,List.getElem?_toArray,List.getElem?_cons_zero,List.getElem?_cons_succ];repeat (refine Mix.cons_form ?_;go_big_quiet_step (fail))
   refine wpQuiet_nil ?_;clear hne;refine Mix.step (i:=15) (by kernel_rfl) rfl rfl ?_;have s6:=s5.perm List.perm_middle;obtain⟨c3,f3⟩:=s6.cells;have s7:=(s6.set 0 (.int .i64 num)).set 1 (.slice a2' n2 cap2);have q3:=s7.cells.1;have FIN:=hid (G.out _ _ _ s7.drop);clear s5 s6 s7;go_simp;refine Mix.step (i:=16) (by kernel_rfl) rfl rfl ?_;go_simp;refine Mix.done (by kernel_rfl) ?_;go_wp2_with fail
   exact bodyPost_ret (v:=.tuple #[.agg #[.int .i64 num,.slice a2' n2 cap2],.bool b2]) (by simp[results,Tryz.results65,go_sem,q3]) rfl FIN.out
theorem j4f (view:Int)(a:Option Addr)(cap:Nat)(ns:List Nd)(at_:Int)(w:World)(hv:chainOk view ns=true)(hc:ns.length<=cap)(hx:NodesAt w a ns) :
  Calls tnp 66 #[.agg #[.int .i64 view,.slice a ns.length cap],.int .i64 at_] w (GaveO w view (tellK (keys ns) at_)):=by
 have s0:=((St.start w).alloc (.cells #[.int .i64 view,.slice a ns.length cap] 34)).allocAt (.cells #[.int .i64 0,.slice none 0 0] 34) (w.heap.size+1) (by simp);obtain⟨hm,hs,h1,h5,hl⟩:=okS hv;have LA:=hid (λW (h:Below w.heap.size w W)=>hv▸jw view a cap ns W hm hc hs (hx.below h));have IN:=hid (λW=>j6i at_ 0 ((ns.length:Int)-2) W);rw[jh7 at_ ns.length h1]at IN;clear hv;cases hk:linkOk at_ ns.length with
 | false=>
  have FO:=hid (jic (ks:=keys ns) (x:=at_) (by rw[j17];exact hk));rw[hk]at IN;clear hk;go_enter Twn.func66,Tryz.ntmps66
  go_wp2_with fail
  generalize(w.alloc (.cells #[.int .i64 view,.slice a ns.length cap] 34 (0,0))).alloc (.cells #[.int .i64 0,.slice none 0 0] 34 (0,0))=w1 at *;obtain⟨x0,_⟩:=s0.drop.cells;have k0:=x0 0;have k1:=x0 1;simp at k0 k1;have g0:=jf k0;have g1:=jf k1;have HG:=hid (λx:Grown w1=>s0.call (j1b x));have LB:=hid (λx:Grown w1=>LA.out (grow w1 x) (HG.out x).below);clear LA k0 k1 x0;refine jm (by kernel_rfl) (by kernel_rfl) ?_;repeat (go_big_quiet_step (((first|(go_at_call 38;exact Calls.grow_of (LB.out _))|(go_at_call 59;exact Calls.grow_same (IN.out _))))))
  refine wpQuiet_nil ?_;rintro _ ⟨x,rfl⟩;have s1:=HG.out x;clear g0 g1 HG LB s0;generalize grow w1 x=w2 at *;obtain⟨c1,f1⟩:=s1.cells;have s2:=(s1.set 0 (.int .i64 0)).set 1 (.slice none 0 0);have q2:=s2.cells.1;have FIN:=hid (j1n (view:=view) FO.out (gaveNone s2 rfl rfl rfl));clear s1 s2;go_wp2_with fail
  exact bodyPost_ret (v:=.tuple #[.agg #[.int .i64 0,.slice none 0 0],.bool false]) (by simp[results,Tryz.results66,go_sem,q2]) rfl FIN.out
 | true=>
  obtain⟨k,rfl⟩:∃k:Nat,at_=k:=⟨at_.toNat,by simp[linkOk]at hk;omega⟩;have hk1:k+1<ns.length:=by simp[linkOk]at hk;omega
  rw[hk]at IN;have FK:=hid (jb0 (ks:=keys ns) k);have TK:Hid (tellN (keys ns) k=if kdone (keys ns) k≠kdone (keys ns) (k+1)then some ((keys ns).set k (kid (keys ns) k,klog (keys ns) k,kdone (keys ns) (k+1)))else none):=hid (by
   unfold tellN;rw[j17];simp only[hk1,true_and])
  clear hk;obtain⟨m,hkm⟩:∃m,k+1=m:=⟨_,rfl⟩;rw[hkm]at TK hk1;have em:(k:Int)+1=(m:Int):=by omega
  have hk0:k<ns.length:=by omega
  have i1:(0:Int)<=(k:Int):=by omega
  have i2:(k:Int)<(ns.length:Int):=by omega
  have j1:(0:Int)<=(m:Int):=by omega
  have j2:(m:Int)<(ns.length:Int):=by omega
  obtain⟨b,off,rfl,p0,p1,p2⟩:=(hx.below s0.below).cells k hk0;obtain⟨b',off',e',r0,r1,r2⟩:=(hx.below s0.below).cells m hk1;cases e';have CC:=hid (λW (h:Below w.heap.size w W)=>j3n view (some ⟨b,off,none⟩) cap ns W h5 hl (hx.below h));have CF:=hid (λW (h:Below w.heap.size w W)=>(hx.below h).cells m hk1);have DK:Hid (kdone (keys ns) k=(nd ns k).done):=hid (by unfold kdone;rw[j25];rfl);have DM:Hid (kdone (keys ns) m=(nd ns m).done):=hid (by unfold kdone;rw[j25];rfl);have ND:=hid (λms (h:keys ms=keys ns)=>(j4r h k));rw[DK.out,DM.out]at TK;generalize hd1:(nd ns k).done=d1 at *;generalize hd2:(nd ns m).done=d2 at *;go_enter Twn.func66,Tryz.ntmps66
  go_wp2_with fail
  generalize(w.alloc (.cells #[.int .i64 view,.slice (some ⟨b,off,none⟩) ns.length cap] 34 (0,0))).alloc (.cells #[.int .i64 0,.slice none 0 0] 34 (0,0))=w1 at *;obtain⟨x0,_⟩:=s0.drop.cells;have k0:=x0 0;have k1:=x0 1;simp at k0 k1;have g0:=jf k0;have g1:=jf k1;have g2:=jf p2;have g3:=jf r2;have HG:=hid (λx:Grown w1=>s0.call (j1b x));have LB:=hid (λx:Grown w1=>LA.out (grow w1 x) (HG.out x).below);clear LA k0 k1 x0 p0 p1 p2 r0 r1 r2;by_cases hne:d1=d2
  ·have FO:Hid (tellK (keys ns) (k:Int)=none):=hid (by rw[FK.out,TK.out,if_neg (by simp[hne])]);subst hne;refine jm (by kernel_rfl) (by kernel_rfl) ?_;repeat (go_big_quiet_step (((first|(go_at_call 38;exact Calls.grow_of (LB.out _))|(go_at_call 59;exact Calls.grow_same (IN.out _))))))
   refine wpQuiet_nil ?_;rintro _ ⟨x,rfl⟩;have s1:=HG.out x;clear g0 g1 g2 g3 HG LB s0;generalize grow w1 x=w2 at *;obtain⟨c1,f1⟩:=s1.cells;have s2:=(s1.set 0 (.int .i64 0)).set 1 (.slice none 0 0);have q2:=s2.cells.1;have FIN:=hid (j1n (view:=view) FO.out (gaveNone s2 rfl rfl rfl));clear s1 s2;go_wp2_with fail
   exact bodyPost_ret (v:=.tuple #[.agg #[.int .i64 0,.slice none 0 0],.bool false]) (by simp[results,Tryz.results66,go_sem,q2]) rfl FIN.out
  ·have FO:=hid (FK.out.trans (TK.out.trans (if_pos hne)));have hne':(d1==d2)=false:=by simp[hne]
   refine jm (by kernel_rfl) (by kernel_rfl) ?_;repeat (go_big_quiet_step (((first|(go_at_call 38;exact Calls.grow_of (LB.out _))|(go_at_call 59;exact Calls.grow_same (IN.out _))))))
   refine wpQuiet_nil ?_;rintro _ ⟨x,rfl⟩;have s1:=HG.out x;clear g0 g1 g2 g3 HG LB s0;generalize grow w1 x=w2 at *;obtain⟨c1,_⟩:=s1.drop.cells;go_wp2_with fail
   refine(CC.out _ s1.below).mono ?_;rintro e w3 ⟨G0,capG,ms,rfl,hkey,hml,ss⟩;have s2:=s1.join ss;obtain⟨G,cG,eG,_,_⟩:=s2.own.form (by omega);cases eG;simp only[List.cons_append]at s2;have NK:=ND.out ms hkey;have s3:=(s2.alloc (.cells #[.int .i64 view,.slice (some ⟨G,0,none⟩) ns.length capG] 34)).at1;have nl:(ncells ms).length=ms.length*3:=j1a _;have hkl:k<ms.length:=by omega
   have z1:=s3.own.cellAt (k*3+2) (by omega);rw[(j2a ms k hkl).2.2,NK.2.2]at z1;obtain⟨_,_,e',r0,r1,r2⟩:=CF.out _ s3.below;cases e';have f1:=s3.own.frozenAt (k*3+2);obtain⟨c3,_⟩:=s3.drop.cells;have c30:=(c3 0).trans (show _=some (Value.int .i64 view)from rfl);have c31:=(c3 1).trans (show _=some (Value.slice (some ⟨G,0,none⟩) ns.length capG)from rfl);obtain⟨c4,_⟩:=(s3.pull (r:=box w.heap.size #[.int .i64 view,.slice (some ⟨b,off,none⟩) ns.length cap] 34) (by simp)).cells;have c41:=(c4 1).trans (show _=some (Value.slice (some ⟨b,off,none⟩) ns.length cap)from rfl);clear c1 c3 c4 ss s1 s2 r0 r1
   go_upto_region 4 with fail
   generalize hO:w3.heap.size=O at *;generalize hW0:w3.alloc (.cells #[.int .i64 view,.slice (some ⟨G,0,none⟩) ns.length capG] 34 (0,0))=w4 at *;have s4:=s3.drew.rowSet (k*3+2) (.int .i64 d2);rw[j3f ms k _ hkl]at s4;generalize hW:w4.drew.setCell ⟨G,k*3+2,none⟩ (.int .i64 d2)=W at s4;have s5:St w W (box O #[.int .i64 view,.slice (some ⟨G,0,none⟩) ns.length capG] 34::row (.slice (some ⟨G,0,none⟩) ns.length capG) 60 3 ns.length (ncells (ms.set k { nd ms k with done:=d2 }))::(nds (ms.set k { nd ms k with done:=d2 })++(box (w.heap.size+1) #[.int .i64 0,.slice none 0 0] 34::[box w.heap.size #[.int .i64 view,.slice (some ⟨b,off,none⟩) ns.length cap] 34]))):=by
    rw[show nds (ms.set k { nd ms k with done:=d2 })=nds ms from jc8 rfl];exact s4.at1
   obtain⟨cO,cR,fR,qR,t1,q0,t0⟩:=j1u s5;have KE:Hid (keys (ms.set k { nd ms k with done:=d2 })=(keys ns).set k (kid (keys ns) k,klog (keys ns) k,d2)):=hid (by
    rw[j6h hkey];unfold kid klog;rw[j25];simp only[keyOf,NK.1,NK.2.1])
   have FIN:=hid (j2d (view:=view) FO.out (gaveSome t1 (by simp[hml]) KE.out));clear t1 t0 q0 s4 s5 s3
   go_region
   all_goals
    clear hW;go_wp2_with fail
    exact bodyPost_ret (v:=.tuple #[.agg #[.int .i64 view,.slice (some ⟨G,0,none⟩) ns.length capG],.bool true]) (by simp[results,Tryz.results66,go_sem,qR]) rfl FIN.out
theorem j34 {w1 w':World}{num:Int}{ks:List Key}{ok:Bool}{e:Ending}(h:GaveChain w1 num ks ok e w'):∃a n cap X,e=.returned (.tuple #[.agg #[.int .i64 num,.slice a n cap],.bool ok])/\St w1 w' X/\∀w0 w2 Y,St w0 w2 (X++Y)->GaveChain w0 num ks ok (.returned (.tuple #[.agg #[.int .i64 num,.slice a n cap],.bool ok])) w2:=by
 obtain⟨a,cap,ns,rfl,hk,h⟩:=h;exact⟨a,ns.length,cap,_,rfl,h,λw0 w2 Y h2=>⟨a,cap,ns,rfl,hk,St.take _ Y rfl h2⟩⟩
theorem St.tail {w0 w:World}{X Y:List Res}(h:St w0 w (X++Y)):St w0 w Y:=St.take Y X rfl (h.perm List.perm_append_comm)
theorem jtu {ks x:List Key}{a:Nat}(h:a<ks.length-1)(hb:∀b,b<a->passN ks b=none)(ha:passN ks a=some x):stepS ks=some x:=by
 unfold stepS;rw[jbq (f:=passN ks) (ks.length-1) 0 a (Nat.zero_le _) (by omega) (λb _ h=>hb b h) ha]
theorem jo4 {ks x:List Key}{a:Nat}(h:a<ks.length-1)(hn:∀b,b<ks.length-1->passN ks b=none)(hb:∀b,a<b->b<ks.length-1->tellN ks b=none)(ha:tellN ks a=some x):stepS ks=some x:=by
 unfold stepS;rw[j4a (f:=passN ks) (ks.length-1) 0 (λb _ h=>hn b (by omega))];exact j70 (f:=tellN ks) (ks.length-1) a h hb ha
theorem jrh {ks:List Key}(hn:∀b,b<ks.length-1->passN ks b=none)(hb:∀b,b<ks.length-1->tellN ks b=none):stepS ks=none:=by
 unfold stepS;rw[j4a (f:=passN ks) (ks.length-1) 0 (λb _ h=>hn b (by omega))];exact j5e (f:=tellN ks) (ks.length-1) hb
theorem jh3 (view:Int)(a:Option Addr)(cap:Nat)(ns:List Nd)(w:World)(hv:chainOk view ns=true)(hc:ns.length<=cap)(hx:NodesAt w a ns) :
  Calls tnp 62 #[.agg #[.int .i64 view,.slice a ns.length cap]] w (GaveO w view (stepS (keys ns))):=by
 have s0:=((St.start w).alloc (.cells #[.int .i64 view,.slice a ns.length cap] 34)).allocAt (.cells #[.int .i64 0,.slice none 0 0] 34) (w.heap.size+1) (by simp);obtain⟨hm,hs,h1,h5,hl⟩:=okS hv;have CP:=hid (λ(k:Nat) W (h:Below w.heap.size w W)=>jau (ks:=keys ns) k▸j4e view a cap ns (k:Int) W hv hc (hx.below h));have CT:=hid (λ(k:Nat) W (h:Below w.heap.size w W)=>jb0 (ks:=keys ns) k▸j4f view a cap ns (k:Int) W hv hc (hx.below h));have KL:=hid (j17 ns);clear hv hx hs hl;go_enter Twn.func62,Tryz.ntmps62
 go_wp2_with fail
 go_loopw [4] (λi wr=>∃(k:Nat),k+1<=ns.length/\i=.int .i64 k/\(∀b,b<k->passN (keys ns) b=none)/\St w wr [box (w.heap.size+1) #[.int .i64 0,.slice none 0 0] 34,box w.heap.size #[.int .i64 view,.slice a ns.length cap] 34]) (λi _=>ns.length-(intOf i).toNat)
 case atStart=>exact⟨0,h1,rfl,λb h=>by omega,s0⟩
 case round=>
  clear s0;obtain⟨k,hk,rfl,hnone,s1⟩:=hrel;have HN:=hid hnone;clear hnone;have b0:=s1.boxIn (V:=w.heap.size) (cs:=#[.int .i64 view,.slice a ns.length cap]) (t:=34) (by simp) 1 rfl;have b1:=s1.boxIn (V:=w.heap.size) (cs:=#[.int .i64 view,.slice a ns.length cap]) (t:=34) (by simp) 0 rfl;by_cases hlt:k+1<ns.length
  ·have j1:(k:Int)+1<(ns.length:Int):=by omega
   go_wp2_with fail
   refine(CP.out k _ s1.below).mono ?_;intro e w2 hg;cases hp:passN (keys ns) k with
   | none=>
    rw[hp]at hg;obtain⟨a2,n2,cap2,X,rfl,ss,_⟩:=j34 hg;have s2:=s1.join ss;have s3:=(s2.alloc (.cells #[.int .i64 0,.slice a2 n2 cap2] 34)).drop.tail;have HP:=hid hp;have FIN:=hid s3;clear hp hg ss s1 s2 s3 b0 b1;go_wp2_with fail
    go_roundw
    case rel=>exact⟨k+1,hlt,by go_num,λb hb=>by
     by_cases e:b=k
     ·rw[e];exact HP.out
     ·exact HN.out b (by omega),FIN.out⟩
    case measure=>simp[intOf];omega
   | some ls=>
    rw[hp]at hg;obtain⟨a2,n2,cap2,X,rfl,ss,hG⟩:=j34 hg;have G:=hid hG;have FO:Hid (stepS (keys ns)=some ls):=hid (jtu (by rw[KL.out];omega) HN.out hp);have s2:=s1.join ss;have s3:=(s2.alloc (.cells #[.int .i64 view,.slice a2 n2 cap2] 34)).perm (List.perm_middle (l₁:=box w2.heap.size #[.int .i64 view,.slice a2 n2 cap2] 34::X));obtain⟨c3,f3⟩:=s3.cells;obtain⟨c4,_⟩:=s3.at1.cells;have s4:=(s3.set 0 (.int .i64 view)).set 1 (.slice a2 n2 cap2);have q3:=s4.cells.1;have FIN:=hid (j2d (view:=view) FO.out (G.out _ _ _ s4.drop.drop));clear hp hg hG ss s1 s2 s3 s4 b0 b1;go_wp2_with fail
    exact bodyPost_ret (v:=.tuple #[.agg #[.int .i64 view,.slice a2 n2 cap2],.bool true]) (by simp[results,Tryz.results62,go_sem,q3]) rfl FIN.out
  ·have j1:¬((k:Int)+1<(ns.length:Int)):=by omega
   have NP:Hid (∀b,b<(keys ns).length-1->passN (keys ns) b=none):=hid (λb hb=>HN.out b (by rw[KL.out]at hb;omega));go_wp2_with fail
   clear b0 b1
   go_loopw [7] (λi wr=>∃(k:Nat),k<=ns.length-1/\i=.int .i64 ((k:Int)-1)/\(∀b,k<=b->b<ns.length-1->tellN (keys ns) b=none)/\St w wr [box (w.heap.size+1) #[.int .i64 0,.slice none 0 0] 34,box w.heap.size #[.int .i64 view,.slice a ns.length cap] 34]) (λi _=>((intOf i)+1).toNat)
   case atStart=>exact⟨ns.length-1,Nat.le_refl _,by congr 1;omega,λb h h2=>by omega,s1⟩
   case round=>
    clear s1;obtain⟨m,hm1,rfl,hnone,s1⟩:=hrel;have HM:=hid hnone;clear hnone;have b0:=s1.boxIn (V:=w.heap.size) (cs:=#[.int .i64 view,.slice a ns.length cap]) (t:=34) (by simp) 1 rfl;have b1:=s1.boxIn (V:=w.heap.size) (cs:=#[.int .i64 view,.slice a ns.length cap]) (t:=34) (by simp) 0 rfl;by_cases hm0:m=0
    ·subst hm0;have FO:Hid (stepS (keys ns)=none):=hid (jrh NP.out (λb hb=>HM.out b (Nat.zero_le _) (by rw[KL.out]at hb;omega)));obtain⟨c3,f3⟩:=s1.cells;have s4:=(s1.set 0 (.int .i64 0)).set 1 (.slice none 0 0);have q3:=s4.cells.1;have FIN:=hid (j1n (view:=view) FO.out (gaveNone s4 rfl rfl rfl));clear s1 s4;go_wp2_with fail
     exact bodyPost_ret (v:=.tuple #[.agg #[.int .i64 0,.slice none 0 0],.bool false]) (by simp[results,Tryz.results62,go_sem,q3]) rfl FIN.out
    ·obtain⟨k,rfl⟩:∃k,m=k+1:=⟨m-1,by omega⟩;have ek:(((k+1:Nat):Int)-1)=(k:Int):=by omega
     rw[ek];have j2:(k:Int)>=0:=by omega
     go_wp2_with fail
     refine(CT.out k _ s1.below).mono ?_;intro e w2 hg;cases hp:tellN (keys ns) k with
     | none=>
      rw[hp]at hg;obtain⟨a2,n2,cap2,X,rfl,ss,_⟩:=j34 hg;have s2:=s1.join ss;have s3:=(s2.alloc (.cells #[.int .i64 0,.slice a2 n2 cap2] 34)).drop.tail;have HP:=hid hp;have FIN:=hid s3;clear hp hg ss s1 s2 s3 b0 b1;go_wp2_with fail
      go_roundw
      case rel=>exact⟨k,by omega,by go_num,λb hb hb2=>by
       by_cases e:b=k
       ·rw[e];exact HP.out
       ·exact HM.out b (by omega) hb2,FIN.out⟩
      case measure=>simp[intOf]
     | some ls=>
      rw[hp]at hg;obtain⟨a2,n2,cap2,X,rfl,ss,hG⟩:=j34 hg;have G:=hid hG;have FO:Hid (stepS (keys ns)=some ls):=hid (jo4 (by rw[KL.out];omega) NP.out (λb hb hb2=>HM.out b (by omega) (by rw[KL.out]at hb2;omega)) hp);have s2:=s1.join ss;have s3:=(s2.alloc (.cells #[.int .i64 view,.slice a2 n2 cap2] 34)).perm (List.perm_middle (l₁:=box w2.heap.size #[.int .i64 view,.slice a2 n2 cap2] 34::X));obtain⟨c3,f3⟩:=s3.cells;obtain⟨c4,_⟩:=s3.at1.cells;have s4:=(s3.set 0 (.int .i64 view)).set 1 (.slice a2 n2 cap2);have q3:=s4.cells.1;have FIN:=hid (j2d (view:=view) FO.out (G.out _ _ _ s4.drop.drop));clear hp hg hG ss s1 s2 s3 s4 b0 b1;go_wp2_with fail
      exact bodyPost_ret (v:=.tuple #[.agg #[.int .i64 view,.slice a2 n2 cap2],.bool true]) (by simp[results,Tryz.results62,go_sem,q3]) rfl FIN.out
end Go.Proofs.T
