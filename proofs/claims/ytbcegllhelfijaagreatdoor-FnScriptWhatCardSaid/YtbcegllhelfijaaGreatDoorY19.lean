/-
  A part of the proof.
-/
import Derived.Test.YtbcegllhelfijaaGreatDoorY18
set_option linter.all false
set_option maxRecDepth 100000
set_option maxHeartbeats 8000000
namespace Go.Proofs.T
open Lib (hid)
open Go.RowKit
def TookX (t:Bool)(id:Int)(us:List Upd)(done k y i2:Int)(a2:Option Addr)(n2 c2:Nat)(d2:Int)(X:List Res):Prop:=
 if t=true then i2=id/\d2=done/\∃g cap',a2=some ⟨g,0,none⟩/\n2=us.length+1/\c2=cap'/\X=[row (.slice (some ⟨g,0,none⟩) (us.length+1) cap') 76 2 (us.length+1) (ucells (us++[(k,y)]))]
 else i2=0/\a2=none/\n2=0/\c2=0/\d2=0/\X=[]
theorem jdg (id done:Int)(a:Option Addr)(cap:Nat)(us:List Upd)(k y:Int)(p:Addr)(w:World)(hm:us.length<=1099511627776)(hx:UpdsAt w a us)(hE:ErrTake w p) :
  Calls tnp 113 #[.agg #[.int .i64 id,.slice a us.length cap,.int .i64 done],.agg #[.int .i64 k,.int .i64 y]] w λe w'=>∃i2 a2 n2 c2 d2 X,e=.returned (.tuple #[.agg #[.int .i64 i2,.slice a2 n2 c2,.int .i64 d2],.bool (takeOk id us done k y)])/\TookX (takeOk id us done k y) id us done k y i2 a2 n2 c2 d2 X/\St w w' X:=by
 cases hn:takeOk id us done k y with
 | true=>
  refine(jhj id done a cap us k y p w hx hE hn).mono ?_;rintro e w' ⟨g,c,rfl,h⟩;exact⟨id,_,_,_,done,_,rfl,⟨rfl,rfl,g,c,rfl,rfl,rfl,rfl⟩,h⟩
 | false=>
  refine(jjv id done a cap us k y p w hm hx hE hn).mono ?_;rintro e w' ⟨rfl,h⟩;exact⟨0,_,_,_,0,[],rfl,⟨rfl,rfl,rfl,rfl,rfl,rfl⟩,h⟩
theorem jo9 (G O m0 H g R u V:Res)(A:List Res):(G::O::((m0::A)++(H::([g]++[R,u,V])))).Perm (O::G::((g::A)++(R::[u,V,H,m0]))):=by
 refine(List.Perm.swap _ _ _).trans (List.Perm.cons _ (List.Perm.cons _ ?_));have h1:((m0::A)++(H::([g]++[R,u,V]))).Perm (A++(m0::H::g::R::u::V::[])):=(List.perm_middle (l₁:=A) (a:=m0) (l₂:=[H,g,R,u,V])).symm;have h2:((g::A)++(R::[u,V,H,m0])).Perm (A++(g::R::u::V::H::m0::[])):=(List.perm_middle (l₁:=A) (a:=g) (l₂:=[R,u,V,H,m0])).symm;refine h1.trans (List.Perm.trans ?_ h2.symm);refine List.Perm.append_left _ ?_;refine(List.perm_append_comm (l₁:=[m0,H]) (l₂:=[g,R,u,V])).trans ?_;exact List.Perm.append_left [g,R,u,V] (List.Perm.swap _ _ _)
theorem jad (view:Int)(a:Option Addr)(cap:Nat)(ns:List Nd)(k y:Int)(p:Addr)(w:World)(hv:chainOk view ns=true)(hx:NodesAt w a ns)(hE:ErrTake w p) :
  Calls tnp 98 #[.agg #[.int .i64 view,.slice a ns.length cap],.agg #[.int .i64 k,.int .i64 y]] w (GaveO w view (writeK (keys ns) (k,y))):=by
 have s0:=(((St.start w).alloc (.cells #[.int .i64 view,.slice a ns.length cap] 34)).allocAt (.cells #[.int .i64 k,.int .i64 y] 76) (w.heap.size+1) (by simp)).allocAt (.cells #[.int .i64 0,.slice none 0 0] 34) (w.heap.size+1+1) (by simp);obtain⟨hm,hs,h1,h5,hl⟩:=okS hv;have HV:=hid hv;have HX:=hid (λW (h:Below w.heap.size w W)=>hx.below h);have N0:nodeOk (nd ns 0).id (nd ns 0).us (nd ns 0).done=true:=((j1c.1 hv).2.2.1 0 (by omega)).1;obtain⟨b,off,rfl,p0,p1,p2⟩:=hx.cells 0 (by omega);have UX:=hid (λW (h:Below w.heap.size w W)=>((hx.2.below h).at (j:=0) (by omega)).1);have CE:=hid (λW (h:Below w.heap.size w W)=>show W.cell? ⟨b,off,none⟩=some (.int .i64 (nd ns 0).id)/\W.cell? ⟨b,off+1,none⟩=some (.slice (nd ns 0).a (nd ns 0).us.length (nd ns 0).cap)/\W.cell? ⟨b,off+2,none⟩=some (.int .i64 (nd ns 0).done)from⟨(h.cell (p:=⟨b,off,none⟩) (jo p0)).trans p0,(h.cell (p:=⟨b,off+1,none⟩) (jo p0)).trans (by simpa using p1),(h.cell (p:=⟨b,off+2,none⟩) (jo p0)).trans (by simpa using p2)⟩);clear hv p0 p1 p2;go_enter Twn.func98,Tryz.ntmps98
 go_wp2_with fail
 refine(jz _ _ _ _ _ hm hs (HX.out _ s0.below)).mono ?_;rw[HV.out];rintro e w1 ⟨rfl,hb⟩;have s1:=s0.call hb;clear s0 hb;have hus:=hl 0 (by omega);rcases hN:nd ns 0 with⟨q,ya,c,us,d⟩;rw[hN]at CE UX N0 hus;dsimp only at CE UX N0 hus;obtain⟨t,ht⟩:∃t,takeOk q us d k y=t:=⟨_,rfl⟩;have NT:=hid (λW (h:Below w.heap.size w W)=>jdg q d ya c us k y p W (by omega) (UX.out W h) (hE.below h));rw[ht]at NT;have NN:=hid hN;have NT0:=hid N0;have TT:=hid ht;clear hN N0 ht
 go_upto_region 3 with fail
 go_cut [6,7] (λs6 s7 wx=>∃H i2 a2 n2 c2 d2 X,s6=.pointer (some ⟨H,0,none⟩)/\s7=.bool t/\TookX t q us d k y i2 a2 n2 c2 d2 X/\St w wx (box H #[.int .i64 i2,.slice a2 n2 c2,.int .i64 d2] 60::(X++[box (w.heap.size+1+1) #[.int .i64 0,.slice none 0 0] 34,box (w.heap.size+1) #[.int .i64 k,.int .i64 y] 76,box w.heap.size #[.int .i64 view,.slice (some ⟨b,off,none⟩) ns.length cap] 34])))
 case first=>
  obtain⟨S,hS⟩:=Mix.named (λw'=>w'.cell? ⟨w.heap.size,1,none⟩=some (.slice (some ⟨b,off,none⟩) ns.length cap)/\w'.cell? ⟨b,off,none⟩=some (.int .i64 q)/\w'.cell? ⟨b,off+1,none⟩=some (.slice ya us.length c)/\w'.cell? ⟨b,off+2,none⟩=some (.int .i64 d)/\w'.cell? ⟨w.heap.size+1,0,none⟩=some (.int .i64 k)/\w'.cell? ⟨w.heap.size+1,1,none⟩=some (.int .i64 y));have HS:=hid hS;have e0:=Mix.held_cell (λw h=>((hS w).1 h).1);have e1:=Mix.held_cell (λw h=>((hS w).1 h).2.1);have e2:=Mix.held_cell (λw h=>((hS w).1 h).2.2.1);have e3:=Mix.held_cell (λw h=>((hS w).1 h).2.2.2.1);have e4:=Mix.held_cell (λw h=>((hS w).1 h).2.2.2.2.1);have e5:=Mix.held_cell (λw h=>((hS w).1 h).2.2.2.2.2);clear hS;have SO:=hid (λW rr (hr:box w.heap.size #[.int .i64 view,.slice (some ⟨b,off,none⟩) ns.length cap] 34∈rr) (hr2:box (w.heap.size+1) #[.int .i64 k,.int .i64 y] 76∈rr) (s:St w W rr)=>by
   have a0:=cell_of_heap (o:=1) (s.pull hr).boxAt;have a1:=cell_of_heap (o:=0) (s.pull hr2).boxAt;have a2:=cell_of_heap (o:=1) (s.pull hr2).boxAt;simp at a0 a1 a2;have a3:=CE.out W s.below;exact(HS.out W).2 ⟨a0,a3.1,a3.2.1,a3.2.2,a1,a2⟩)
  have s2:=s1.drew;have i5:(0:Int)<(ns.length:Int):=by omega
  refine Mix.start S 11 (by kernel_rfl) ?_;refine Mix.take [0,1,2,3,4] 7 (by kernel_rfl) (by kernel_rfl) (by kernel_rfl) (by intro c a a' w e h;exact⟨e.symm.trans h.1,h.2⟩) (SO.out _ _ (by simp) (by simp) s2) ?_;intro hne;simp only[Mix.pickOps,List.filterMap_cons,List.filterMap_nil,List.getElem?_toArray,List.getElem?_cons_zero,List.getElem?_cons_succ];repeat (refine Mix.cons_form ?_;go_big_quiet_step (fail))
  refine wpQuiet_nil ?_;clear hne;generalize w1.drew=wd at *;refine Mix.fork (i:=5) (j:=9) (by kernel_rfl) rfl rfl rfl rfl ?_ ?_
  ·go_simp;refine(NT.out _ s2.below).mono ?_;rintro e w3 ⟨i2,a2,n2,c2,d2,X,rfl,HT,ss⟩;have s3:=s2.join ss;refine And.intro (SO.out _ _ (by simp) (by simp) s3) ?_;go_simp;refine Mix.take [6,7,8] 3 (by kernel_rfl) (by kernel_rfl) (by kernel_rfl) (by intro c a a' w e h;exact⟨e.symm.trans h.1,h.2⟩) (SO.out _ _ (by simp) (by simp) s3) ?_;intro hne;simp only[Mix.pickOps,List.filterMap_cons,List.filterMap_nil,List.getElem?_toArray,List.getElem?_cons_zero,List.getElem?_cons_succ];repeat (refine Mix.cons_form ?_;go_big_quiet_step (fail))
   refine wpQuiet_nil ?_;clear hne;refine Mix.step (i:=9) (by kernel_rfl) rfl rfl ?_;have s4:=s3.alloc (.cells #[.int .i64 0,.slice none 0 0,.int .i64 0] 60);go_simp;refine And.intro (SO.out _ _ (by simp) (by simp) s4) ?_;refine Mix.step (i:=10) (by kernel_rfl) rfl rfl ?_;have FIN:=hid (s3.alloc (.cells #[.int .i64 i2,.slice a2 n2 c2,.int .i64 d2] 60));have SO2:=hid (SO.out _ _ (by simp) (by simp) FIN.out);go_simp;refine And.intro SO2.out ?_;clear s3 s4 ss;refine Mix.step (i:=11) (by kernel_rfl) rfl rfl ?_;go_simp;refine Mix.done (by kernel_rfl) ?_;go_wp2_with fail
   go_meet
   exact⟨_,_,_,_,_,_,_,rfl,rfl,HT,FIN.out⟩
  ·have s3:=s2.alloc (.cells #[.int .i64 0,.slice none 0 0,.int .i64 0] 60);go_simp;refine And.intro (SO.out _ _ (by simp) (by simp) s3) ?_;refine Mix.step (i:=5) (by kernel_rfl) rfl rfl ?_;go_simp;refine(NT.out _ s3.below).mono ?_;rintro e w3 ⟨i2,a2,n2,c2,d2,X,rfl,HT,ss⟩;have s4:=(s3.join ss).perm List.perm_middle;refine And.intro (SO.out _ _ (by simp) (by simp) s4) ?_;go_simp;refine Mix.take [6,7,8] 2 (by kernel_rfl) (by kernel_rfl) (by kernel_rfl) (by intro c a a' w e h;exact⟨e.symm.trans h.1,h.2⟩) (SO.out _ _ (by simp) (by simp) s4) ?_;intro hne;simp only[Mix.pickOps,List.filterMap_cons,List.filterMap_nil,List.getElem?_toArray,List.getElem?_cons_zero,List.getElem?_cons_succ];repeat (refine Mix.cons_form ?_;go_big_quiet_step (fail))
   refine wpQuiet_nil ?_;clear hne;refine Mix.step (i:=10) (by kernel_rfl) rfl rfl ?_;obtain⟨c4,f4⟩:=s4.cells;have s5:=((s4.set 0 (.int .i64 i2)).set 1 (.slice a2 n2 c2)).set 2 (.int .i64 d2);have FIN:=hid s5;have SO2:=hid (SO.out _ _ (by simp) (by simp) s5);go_simp;refine And.intro SO2.out ?_;clear s2 s3 s4 ss s5 c4 f4;refine Mix.step (i:=11) (by kernel_rfl) rfl rfl ?_;go_simp;refine Mix.done (by kernel_rfl) ?_;go_wp2_with fail
   go_meet
   exact⟨_,_,_,_,_,_,_,rfl,rfl,HT,FIN.out⟩
 case rest=>
  clear s1;obtain⟨H,i2,a2,n2,c2,d2,X,rfl,rfl,HT,s1⟩:=hcut;cases t with
  | false=>
   have FO:Hid (writeK (keys ns) (k,y)=none):=hid (by
    unfold writeK klog;rw[j25,NN.out,if_neg];intro hc;have:=TT.out;simp only[takeOk,NT0.out,hc.1,Bool.true_and,decide_eq_false_iff_not]at this;exact this hc.2)
   obtain⟨rfl,rfl,rfl,rfl,rfl,rfl⟩:=HT;obtain⟨c3,f3⟩:=s1.at1.cells;have s2:=(s1.at1.set 0 (.int .i64 0)).set 1 (.slice none 0 0);have q2:=s2.cells.1;have FIN:=hid (j1n (view:=view) FO.out (gaveNone s2 rfl rfl rfl));clear s1 s2;go_wp2_with fail
   exact bodyPost_ret (v:=.tuple #[.agg #[.int .i64 0,.slice none 0 0],.bool false]) (by simp[results,Tryz.results98,go_sem,q2]) rfl FIN.out
  | true=>
   have TO:=TT.out;simp only[takeOk,NT0.out,Bool.true_and,Bool.and_eq_true,decide_eq_true_eq]at TO;obtain⟨dn,hdn⟩:∃dn:Int,(if 0+1=ns.length then((us.length:Nat):Int)+1 else d)=dn:=⟨_,rfl⟩;have FO:Hid (writeK (keys ns) (k,y)=some ((keys ns).set 0 (q,us++[(k,y)],dn))):=hid (by
    have K0:kat (keys ns) 0=(q,us,d):=by rw[j25,NN.out];rfl
    unfold writeK;rw[if_pos (show _/\(klog (keys ns) 0).length<12 from by unfold klog;rw[K0];exact TO)];unfold takeAt kid klog kdone;rw[K0,j17];dsimp only;rw[hdn])
   have HDN:=hid hdn;clear hdn;obtain⟨rfl,rfl,g,cap',rfl,rfl,rfl,rfl⟩:=HT;have us12:=TO.2;obtain⟨c1,_⟩:=s1.at4.cells
   go_upto_if 28 with fail
   go_cut [28] (λ_ wx=>St w wx (box H #[.int .i64 i2,.slice (some ⟨g,0,none⟩) (us.length+1) c2,.int .i64 dn] 60::([row (.slice (some ⟨g,0,none⟩) (us.length+1) c2) 76 2 (us.length+1) (ucells (us++[(k,y)]))]++[box (w.heap.size+1+1) #[.int .i64 0,.slice none 0 0] 34,box (w.heap.size+1) #[.int .i64 k,.int .i64 y] 76,box w.heap.size #[.int .i64 view,.slice (some ⟨b,off,none⟩) ns.length cap] 34])))
   case first=>
    have HD:=HDN.out;by_cases h1n:ns.length=1
    ·rw[if_pos (by omega)]at HD;subst HD;obtain⟨c2,f2⟩:=s1.cells;have e1:((ns.length:Int)==1)=true:=by simp[h1n]
     have FIN:=hid (s1.set 2 (.int .i64 ((us.length:Int)+1)));clear s1 h1n;go_wp2_with fail
     go_meet
     exact FIN.out
    ·rw[if_neg (by omega)]at HD;subst HD;have e1:((ns.length:Int)==1)=false:=by simp;omega
     have FIN:=hid s1;clear s1 h1n;go_wp2_with fail
     go_meet
     exact FIN.out
   case rest=>
    clear s1 c1;have s2:=hcut;clear hcut;obtain⟨cV,_⟩:=s2.at4.cells;go_wp2_with fail
    refine(j32 view (some ⟨b,off,none⟩) cap ns _ h5 hl (HX.out _ s2.below)).mono ?_;rintro e w3 ⟨G,ms,rfl,hkey,hml,ss⟩;obtain⟨m0,r,rfl⟩:∃m0 r,ms=m0::r:=by
     cases ms with
     | nil=>simp at hml;omega
     | cons m0 r=>exact⟨m0,r,rfl⟩
    have s3:=(s2.join ss);have s4:=(s3.alloc (.cells #[.int .i64 view,.slice (some ⟨G,0,none⟩) ns.length ns.length] 34)).at1;have nl:(ncells (m0::r)).length=(m0::r).length*3:=j1a _;have z0:=s4.own.cellAt 0 (by omega);have z1:=s4.own.cellAt 1 (by omega);have z2:=s4.own.cellAt 2 (by omega);rw[j1i]at z0 z1 z2;simp only[List.getElem?_cons_zero,List.getElem?_cons_succ]at z0 z1 z2;have f0:=s4.own.frozenAt 0;have f1:=s4.own.frozenAt 1;have f2:=s4.own.frozenAt 2;obtain⟨h0,_⟩:=(s4.pull (r:=box H #[.int .i64 i2,.slice (some ⟨g,0,none⟩) (us.length+1) c2,.int .i64 dn] 60) (by simp)).cells;have s5:=(((s4.rowSet 0 (.int .i64 i2)).rowSet 1 (.slice (some ⟨g,0,none⟩) (us.length+1) c2)).rowSet 2 (.int .i64 dn)).perm (jo9 _ _ _ _ _ _ _ _ _);generalize hW:(((w3.alloc (.cells #[.int .i64 view,.slice (some ⟨G,0,none⟩) ns.length ns.length] 34)).setCell ⟨G,0,none⟩ (.int .i64 i2)).setCell ⟨G,1,none⟩ (.slice (some ⟨g,0,none⟩) (us.length+1) c2)).setCell ⟨G,2,none⟩ (.int .i64 dn)=W at s5;have s6:St w W (box w3.heap.size #[.int .i64 view,.slice (some ⟨G,0,none⟩) ns.length ns.length] 34::row (.slice (some ⟨G,0,none⟩) ns.length ns.length) 60 3 ns.length (ncells (⟨i2,some ⟨g,0,none⟩,c2,us++[(k,y)],dn⟩::r))::(nds (⟨i2,some ⟨g,0,none⟩,c2,us++[(k,y)],dn⟩::r)++(box (w.heap.size+1+1) #[.int .i64 0,.slice none 0 0] 34::[box (w.heap.size+1) #[.int .i64 k,.int .i64 y] 76,box w.heap.size #[.int .i64 view,.slice (some ⟨b,off,none⟩) ns.length cap] 34,box H #[.int .i64 i2,.slice (some ⟨g,0,none⟩) (us.length+1) c2,.int .i64 dn] 60,logRes m0]))):=by
     have e:=s5;rw[j1i]at e ⊢;simp only[List.set_cons_zero,List.set_cons_succ]at e;simpa[nds,logRes]using e
    obtain⟨cO,cR,fR,qR,t1,q0,t0⟩:=j1u s6;have KE:Hid (keys (⟨i2,some ⟨g,0,none⟩,c2,us++[(k,y)],dn⟩::r)=(keys ns).set 0 (i2,us++[(k,y)],dn)):=hid (by
     rw[<- hkey];rfl)
    have FIN:=hid (j2d (view:=view) FO.out (gaveSome t1 (by simpa using hml.symm) KE.out));clear t1 t0 q0 s5 s6 s4 s3 s2 ss;go_wp2_with fail
    exact bodyPost_ret (v:=.tuple #[.agg #[.int .i64 view,.slice (some ⟨G,0,none⟩) ns.length ns.length],.bool true]) (by simp[results,Tryz.results98,go_sem,qR]) rfl FIN.out
theorem jnu:Twn.pass.ntmps=40:=rfl
theorem jhs:Twn.pass.results=#[.tmp 4]:=rfl
theorem jjj {W:World}{y:Obj}{n:Nat}(h:W.heap.size=n):(W.alloc y).heap[n]?=some y:=h▸heap_alloc_new W y
theorem jpn (x z:Value)(a:Option Addr)(n c:Nat)(w:World):(Instr.field 60 (.agg #[x,.slice a n c,z]) 1).run tnp w=.ok (.slice a n c) w:=by kernel_rfl
theorem jxc (b:Addr)(n c:Nat)(w:World):(binOp .eql 58 (.slice none 0 0) (.slice (some b) n c)).run tnp w=.ok (.bool false) w:=by kernel_rfl
theorem jdi (i1 d1 i2 d2:Int)(a1 a2:Option Addr)(c1 c2:Nat)(us vs:List Upd)(k y:Int)(w:World)(hl:us.length<=12)(hlt:vs.length<us.length)(hu:us[vs.length]=(k,y))(hx:UpdsAt w a1 us)(hy:UpdsAt w a2 vs) :
  Calls tnp 116 #[.agg #[.int .i64 i1,.slice a1 us.length c1,.int .i64 d1],.agg #[.int .i64 i2,.slice a2 vs.length c2,.int .i64 d2]] w λe w'=>∃g cap',e=.returned (.slice (some ⟨g,0,none⟩) (vs.length+1) cap')/\St w w' [row (.slice (some ⟨g,0,none⟩) (vs.length+1) cap') 76 2 (vs.length+1) (ucells (vs++[(k,y)]))]:=by
 obtain⟨b,off,rfl,p0,p1⟩:=hx.cells vs.length hlt;rw[hu]at p0 p1;go_enter Twn.func116,jnu
 unfold Twn.passBody Twn.passAsk Twn.passMake Twn.passDo;have t1:(vs.length:Int)<(us.length:Int):=by omega
 have t2:(vs.length:Int)<13:=by omega
 have t3:=jpn;have t4:=jxc;have s4:St w _ []:=((((((St.start w).alloc (.cells #[.int .i64 i1,.slice (some ⟨b,off,none⟩) us.length c1,.int .i64 d1] 60)).alloc (.cells #[.int .i64 i2,.slice a2 vs.length c2,.int .i64 d2] 60)).alloc (.cells #[] 145)).alloc (.cells #[] 145)).drop.drop.drop.drop);obtain⟨ht,i,z,hi,hz,hsize,hby,hzs,hsz⟩:=j5c;obtain⟨wm,hr,ho,hg⟩:=run_makeSlice_full (P:=tnp) ((((w.alloc (.cells #[.int .i64 i1,.slice (some ⟨b,off,none⟩) us.length c1,.int .i64 d1] 60)).alloc (.cells #[.int .i64 i2,.slice a2 vs.length c2,.int .i64 d2] 60)).alloc (.cells #[] 145)).alloc (.cells #[] 145)) _ 58 76 i z 2 ht hi hz hsize .i64 .i64 vs.length (by omega) (by rw[hby];omega) (by unfold maxLen;omega) (Nat.le_refl _);simp only[World.size_alloc]at hr ho;rcases ho.2 with⟨e,_⟩|⟨g',cap',cur,e,_,hh,_,_,hcs,_⟩
 ·simp at e
 cases e;have s5:St w wm (box (w.heap.size+1+1+1+1) cur 76::[]):=s4.add hg hh (λb hb=>by cases hb;simp only[World.size_alloc];exact ho.lt _ rfl);have hsrc:=hy.below s5.below;have hfit:(ucells vs).length<=cur.size:=by rw[j30,hcs];omega
 have UL:=hid (j30 vs);have HC:=hid hcs;have hcl:vs.length*2<=cur.size:=by omega
 clear ho hg hi hz hsize hby hzs hsz ht hcs;go_wp2_with (refine jc4 (by rfl) (.tmp 12) (.tmp 26) 58 58 (by rfl) 76 2 Twn.underlying58 jbw (w.heap.size+1+1+1+1) vs.length vs.length c2 a2 (by rfl) (by rfl) (ucells vs) cur 76 UL.out hsrc hh hfit (jeq vs) ?_)
 intro w6 hh' hg';have s6:=s5.boxTo hg' hh';have e:(ucells vs++List.drop (ucells vs).length cur.toList)=ucells vs:=by
  rw[List.drop_of_length_le (by rw[UL.out,Array.length_toList,HC.out];exact Nat.le_refl _),List.append_nil]
 rw[e]at s6;have s7:=s6.madeRow 2 vs.length (by simp[UL.out]) (by unfold maxLen;omega) vs.length (Nat.le_refl _);have e2:(ucells vs).toArray.toList.take (vs.length*2)=ucells vs:=by
  rw[List.take_of_length_le (by simp[UL.out])]
 rw[e2]at s7;obtain⟨b3,off3,e3,q0,q1⟩:=(hx.below s7.below).cells vs.length hlt;cases e3;rw[hu]at q0 q1;have lb:b<w6.heap.size:=jo q0;clear hh' hg' s5 s6 e e2 hr hh s4 p0 p1 hsrc hfit hcl;have i1':(0:Int)<=(vs.length:Int):=by omega
 have s8:=((((s7.alloc (.cells #[.slice (some ⟨w.heap.size+1+1+1+1,0,none⟩) vs.length vs.length] 58)).alloc (.cells #[.int .i64 k,.int .i64 y] 76)).alloc (.cells #[] 145)).alloc (.cells #[.int .i64 k,.int .i64 y] 76));have o8:=s8.at4.own;have lR:=s7.size;go_wp2_with ((at_builtin;refine j36 j5c (by rfl) _ _ (by rfl) w.heap.size (.slice (some ⟨w.heap.size+1+1+1+1,0,none⟩) vs.length vs.length) vs.length (ucells vs) (by rfl) (w6.heap.size+1+1+1+1) 1 1 (by rfl) #[.int .i64 k,.int .i64 y] 76 (0,0) (by rfl) (by simp[Value.oneCell']) (by omega) (by omega) (by omega) (jjj (by simp)) (o8.alloc _) (by simp;omega) ?_);intro gg cap3 w9 hown hgrow hat hl2;have s9:=(s8.at4.app (World.grownBy_alloc _ _ none) hown hgrow hat hl2).at4;obtain⟨d9,f9⟩:=s9.cells;have sF:=(s9.set 0 (.slice (some ⟨gg,0,none⟩) (vs.length+1) cap3));have qF:=sF.cells.1)
 have FIN:=hid (sF.at1.only);have eu:ucells vs++[Value.int .i64 k,.int .i64 y]=ucells (vs++[(k,y)]):=by simp[ucells]
 refine bodyPost_ret (v:=.slice (some ⟨gg,0,none⟩) (vs.length+1) cap3) (by simp[results,jhs,go_sem,qF]) rfl ⟨gg,cap3,rfl,?_⟩;rw[<- eu];exact FIN.out
theorem je8:∀(ns:List Nd)(i:Nat)(n:Nd),i<ns.length->n.id=(nd ns i).id->n.done=(nd ns i).done->(ncells ns).set (i*3+1) (.slice n.a n.us.length n.cap)=ncells (ns.set i n)
 | [],_,_,h,_,_=>by simp at h
 | m::r,0,n,_,h1,h2=>by
  have e1:m.id=n.id:=h1.symm;have e2:m.done=n.done:=h2.symm;simp[j1i,e1,e2]
 | m::r,i+1,n,h,h1,h2=>by
  have ih:=je8 r i n (by simpa using h) h1 h2;rw[j1i,show(i+1)*3+1=(i*3+1)+1+1+1 by omega,List.set_cons_succ,List.set_cons_succ,List.set_cons_succ,ih,List.set_cons_succ,j1i]
theorem jln {α:Type}(x:α):∀(l:List α)(i:Nat)(h:i<l.length),(x::l).Perm (l.set i x++[l[i]])
 | [],_,h=>by simp at h
 | a::r,0,_=>by
  simp only[List.set_cons_zero,List.getElem_cons_zero,List.cons_append];exact List.Perm.cons _ (List.perm_append_comm (l₁:=[a]) (l₂:=r))
 | a::r,i+1,h=>by
  simp only[List.set_cons_succ,List.getElem_cons_succ,List.cons_append];exact(List.Perm.swap a x r).trans (List.Perm.cons _ (jln x r i (by simpa using h)))
theorem jqq {ns:List Nd}{i:Nat}{n:Nd}(h:i<ns.length):(logRes n::nds ns).Perm (nds (ns.set i n)++[logRes (nd ns i)]):=by
 have e:=jln (logRes n) (nds ns) i (by simpa[nds]using h);rw[j3o h];simpa[nds,List.map_set]using e
theorem jqx {g O G:Res}{A B X:List Res}{o:Res}(h:(g::A).Perm (B++[o])):(g::O::G::(A++X)).Perm (O::G::(B++(X++[o]))):=by
 refine(List.Perm.swap _ _ _).trans (List.Perm.cons _ ((List.Perm.swap _ _ _).trans (List.Perm.cons _ ?_)));refine(List.Perm.append_right X h).trans ?_;rw[List.append_assoc];exact List.Perm.append_left B (List.perm_append_comm (l₁:=[o]) (l₂:=X))
theorem jnv {g O G:Res}{A B X:List Res}{o:Res}(h:(g::A).Perm (B++[o])):(G::g::O::(A++X)).Perm (O::G::(B++(X++[o]))):=
 ((List.Perm.swap _ _ _).trans (List.Perm.cons _ (List.Perm.swap _ _ _))).trans (jqx h)
theorem jau {ks:List Key}(k:Nat):passK ks (k:Int)=passN ks k:=by simp[passK]
theorem jhq {ks:List Key}{x:Int}(h:linkOk x ks.length=false):passK ks x=none:=by
 unfold passK passN;simp[linkOk]at h;split
 ·rw[if_neg];intro hc;have:=h (by assumption);omega
 ·rfl
theorem j5q (view:Int)(a:Option Addr)(cap:Nat)(ns:List Nd)(at_:Int)(w:World)(hv:chainOk view ns=true)(hx:NodesAt w a ns) :
  Calls tnp 99 #[.agg #[.int .i64 view,.slice a ns.length cap],.int .i64 at_] w (GaveO w view (passK (keys ns) at_)):=by
 have s0:=((St.start w).alloc (.cells #[.int .i64 view,.slice a ns.length cap] 34)).allocAt (.cells #[.int .i64 0,.slice none 0 0] 34) (w.heap.size+1) (by simp);obtain⟨hm,hs,h1,h5,hl⟩:=okS hv;have LA:=hid (λW (h:Below w.heap.size w W)=>j9x view a cap ns at_ W hv (hx.below h));have VPK:VP view (keys ns):=j1p.1 (by rw[<- jt];exact hv);clear hv;cases hk:linkOk at_ ns.length with
 | false=>
  clear VPK;have FO:=hid (jhq (ks:=keys ns) (x:=at_) (by rw[j17];exact hk));rw[hk]at LA;clear hk;go_enter Twn.func99,Tryz.ntmps99
  go_wp2_with fail
  generalize(w.alloc (.cells #[.int .i64 view,.slice a ns.length cap] 34 (0,0))).alloc (.cells #[.int .i64 0,.slice none 0 0] 34 (0,0))=w1 at *;obtain⟨x0,_⟩:=s0.drop.cells;have k0:=x0 0;have k1:=x0 1;simp at k0 k1;have g0:=jf k0;have g1:=jf k1;have HG:=hid (λx:Grown w1=>s0.call (j1b x));have LB:=hid (λx:Grown w1=>LA.out (grow w1 x) (HG.out x).below);clear LA k0 k1 x0;refine jm (by kernel_rfl) (by kernel_rfl) ?_;repeat (go_big_quiet_step (((go_at_call 115;exact Calls.grow_of (LB.out _)))))
  refine wpQuiet_nil ?_;rintro _ ⟨x,rfl⟩;have s1:=HG.out x;clear g0 g1 HG LB s0;generalize grow w1 x=w2 at *;obtain⟨c1,f1⟩:=s1.cells;have s2:=(s1.set 0 (.int .i64 0)).set 1 (.slice none 0 0);have q2:=s2.cells.1;have FIN:=hid (j1n (view:=view) FO.out (gaveNone s2 rfl rfl rfl));clear s1 s2;go_wp2_with fail
  exact bodyPost_ret (v:=.tuple #[.agg #[.int .i64 0,.slice none 0 0],.bool false]) (by simp[results,Tryz.results99,go_sem,q2]) rfl FIN.out
 | true=>
  obtain⟨k,rfl⟩:∃k:Nat,at_=k:=⟨at_.toNat,by simp[linkOk]at hk;omega⟩;have hk1:k+1<ns.length:=by simp[linkOk]at hk;omega
  rw[hk]at LA;have FK:=hid (jau (ks:=keys ns) k);have LK:klog (keys ns) k=(nd ns k).us:=by unfold klog;rw[j25];rfl
  have LM:klog (keys ns) (k+1)=(nd ns (k+1)).us:=by unfold klog;rw[j25];rfl
  have TK:Hid (passN (keys ns) k=if(nd ns k).us.length≠(nd ns (k+1)).us.length then some (takeAt (keys ns) (k+1) ((nd ns k).us.getD (nd ns (k+1)).us.length (0,0)))else none):=hid (by
   unfold passN;rw[j17,LK,LM];simp only[hk1,true_and])
  have PN:=hid (λh=>jce VPK (i:=k) (by rw[j17];exact hk1) h);rw[LK,LM]at PN;have hl0:=hl k (by omega);clear hk VPK LK LM;obtain⟨m,hkm⟩:∃m,k+1=m:=⟨_,rfl⟩;rw[hkm]at TK hk1 PN;have em:(k:Int)+1=(m:Int):=by omega
  have hk0:k<ns.length:=by omega
  have i1:(0:Int)<=(k:Int):=by omega
  have i2:(k:Int)<(ns.length:Int):=by omega
  have j1:(0:Int)<=(m:Int):=by omega
  have j2:(m:Int)<(ns.length:Int):=by omega
  obtain⟨b,off,rfl,p0,p1,p2⟩:=(hx.below s0.below).cells k hk0;obtain⟨b',off',e',r0,r1,r2⟩:=(hx.below s0.below).cells m hk1;cases e';have UK:=hid (λW (h:Below w.heap.size w W)=>((hx.2.below h).at hk0).1);have UM:=hid (λW (h:Below w.heap.size w W)=>((hx.2.below h).at hk1).1);have CC:=hid (λW (h:Below w.heap.size w W)=>j32 view (some ⟨b,off,none⟩) cap ns W h5 hl (hx.below h));have CE:=hid (λW (h:Below w.heap.size w W)=>(hx.below h).cells k hk0);have CF:=hid (λW (h:Below w.heap.size w W)=>(hx.below h).cells m hk1);have ND2:=hid (λms (h:keys ms=keys ns)=>(j4r h m));have KM:Hid (kat (keys ns) m=keyOf (nd ns m)):=hid (j25 ns m);rcases hNk:nd ns k with⟨id1,a1,c1,us,d1⟩;rcases hNm:nd ns m with⟨id2,a2,c2,vs,d2⟩;rw[hNk]at p0 p1 p2 UK TK CE PN hl0;rw[hNm]at r0 r1 r2 UM TK CF ND2 PN KM;dsimp only at p0 p1 p2 r0 r1 r2 UK UM TK CE CF ND2 PN hl0;clear hNk hNm;go_enter Twn.func99,Tryz.ntmps99
  go_wp2_with fail
  generalize(w.alloc (.cells #[.int .i64 view,.slice (some ⟨b,off,none⟩) ns.length cap] 34 (0,0))).alloc (.cells #[.int .i64 0,.slice none 0 0] 34 (0,0))=w1 at *;obtain⟨x0,_⟩:=s0.drop.cells;have k0:=x0 0;have k1:=x0 1;simp at k0 k1;have g0:=jf k0;have g1:=jf k1;have g2:=jf p1;have g3:=jf r1;have HG:=hid (λx:Grown w1=>s0.call (j1b x));have LB:=hid (λx:Grown w1=>LA.out (grow w1 x) (HG.out x).below);clear LA k0 k1 x0 p0 p1 p2 r0 r1 r2;by_cases hne:us.length=vs.length
  ·have FO:Hid (passK (keys ns) (k:Int)=none):=hid (by rw[FK.out,TK.out,if_neg (by simp[hne])]);have hne':((us.length:Int)==(vs.length:Int))=true:=by simp[hne]
   refine jm (by kernel_rfl) (by kernel_rfl) ?_;repeat (go_big_quiet_step (((go_at_call 115;exact Calls.grow_of (LB.out _)))))
   refine wpQuiet_nil ?_;rintro _ ⟨x,rfl⟩;have s1:=HG.out x;clear g0 g1 g2 g3 HG LB s0;generalize grow w1 x=w2 at *;obtain⟨c1,f1⟩:=s1.cells;have s2:=(s1.set 0 (.int .i64 0)).set 1 (.slice none 0 0);have q2:=s2.cells.1;have FIN:=hid (j1n (view:=view) FO.out (gaveNone s2 rfl rfl rfl));clear s1 s2;go_wp2_with fail
   exact bodyPost_ret (v:=.tuple #[.agg #[.int .i64 0,.slice none 0 0],.bool false]) (by simp[results,Tryz.results99,go_sem,q2]) rfl FIN.out
  ·have FO:=hid (FK.out.trans (TK.out.trans (if_pos hne)));obtain⟨hlt,_,_⟩:=PN.out hne;have hne':((us.length:Int)==(vs.length:Int))=false:=by simp;omega
   refine jm (by kernel_rfl) (by kernel_rfl) ?_;repeat (go_big_quiet_step (((go_at_call 115;exact Calls.grow_of (LB.out _)))))
   refine wpQuiet_nil ?_;rintro _ ⟨x,rfl⟩;have s1:=HG.out x;clear g0 g1 g2 g3 HG LB s0;generalize grow w1 x=w2 at *;obtain⟨c1',_⟩:=s1.drop.cells;go_wp2_with fail
   refine(CC.out _ s1.below).mono ?_;rintro e w3 ⟨G,ms,rfl,hkey,hml,ss⟩;have s2:=s1.join ss;simp only[List.cons_append]at s2;have NM:=ND2.out ms hkey;have HKEY:=hid hkey;have s3:=(s2.alloc (.cells #[.int .i64 view,.slice (some ⟨G,0,none⟩) ns.length ns.length] 34)).at1;clear c1' ss s1 s2;generalize hO:w3.heap.size=O at *;go_wp2_with fail
   obtain⟨uk,uy,hu⟩:∃p q,us[vs.length]'hlt=(p,q):=⟨_,_,rfl⟩;have PC:=hid (λW (h:Below w.heap.size w W)=>jdi id1 d1 id2 d2 a1 a2 c1 c2 us vs uk uy W hl0 hlt hu (UK.out W h) (UM.out W h));have hgd:us.getD vs.length (0,0)=(uk,uy):=by rw[<- hu];simp[hlt]
   obtain⟨dn,hdn⟩:∃dn:Int,(if m+1=ns.length then((vs.length:Nat):Int)+1 else d2)=dn:=⟨_,rfl⟩;have FO2:Hid (passK (keys ns) (k:Int)=some ((keys ns).set m (id2,vs++[(uk,uy)],dn))):=hid (by
    rw[FO.out,hgd];unfold takeAt kid klog kdone;rw[KM.out,j17];simp only[keyOf];rw[hdn])
   have HDN:=hid hdn;clear hgd hdn hu;generalize hW0:w3.alloc (.cells #[.int .i64 view,.slice (some ⟨G,0,none⟩) ns.length ns.length] 34 (0,0))=w4 at *;obtain⟨S,hS⟩:=Mix.named (λw'=>w'.cell? ⟨w.heap.size,1,none⟩=some (.slice (some ⟨b,off,none⟩) ns.length cap)/\w'.cell? ⟨b,off+k*3,none⟩=some (.int .i64 id1)/\w'.cell? ⟨b,off+k*3+1,none⟩=some (.slice a1 us.length c1)/\w'.cell? ⟨b,off+k*3+2,none⟩=some (.int .i64 d1)/\w'.cell? ⟨b,off+m*3,none⟩=some (.int .i64 id2)/\w'.cell? ⟨b,off+m*3+1,none⟩=some (.slice a2 vs.length c2)/\w'.cell? ⟨b,off+m*3+2,none⟩=some (.int .i64 d2));have HS:=hid hS;have e0:=Mix.held_cell (λw h=>((hS w).1 h).1);have e1:=Mix.held_cell (λw h=>((hS w).1 h).2.1);have e2:=Mix.held_cell (λw h=>((hS w).1 h).2.2.1);have e3:=Mix.held_cell (λw h=>((hS w).1 h).2.2.2.1);have e4:=Mix.held_cell (λw h=>((hS w).1 h).2.2.2.2.1);have e5:=Mix.held_cell (λw h=>((hS w).1 h).2.2.2.2.2.1);have e6:=Mix.held_cell (λw h=>((hS w).1 h).2.2.2.2.2.2);clear hS;have SO:=hid (λW rr (hr:box w.heap.size #[.int .i64 view,.slice (some ⟨b,off,none⟩) ns.length cap] 34∈rr) (s:St w W rr)=>by
    have a0:=cell_of_heap (o:=1) (s.pull hr).boxAt;simp at a0;obtain⟨_,_,e,q0,q1,q2⟩:=CE.out W s.below;cases e;obtain⟨_,_,e,r0,r1,r2⟩:=CF.out W s.below;cases e;exact(HS.out W).2 ⟨a0,q0,q1,q2,r0,r1,r2⟩)
   have s4:=s3.drew;refine Mix.start S 15 (by kernel_rfl) ?_;generalize w4.drew=w5 at *;refine Mix.take [0,1,2,3,4,5,6,7,8,9,10,11] 4 (by kernel_rfl) (by kernel_rfl) (by kernel_rfl) (by intro c a a' w e h;exact⟨e.symm.trans h.1,h.2⟩) (SO.out _ _ (by simp) s4) ?_;intro hne;simp only[Mix.pickOps,List.filterMap_cons,List.filterMap_nil,List.getElem?_toArray,List.getElem?_cons_zero,List.getElem?_cons_succ];repeat (refine Mix.cons_form ?_;go_big_quiet_step (fail))
   refine wpQuiet_nil ?_;clear hne;refine Mix.step (i:=12) (by kernel_rfl) rfl rfl ?_;go_simp;refine(PC.out _ s4.below).mono ?_;rintro e w6 ⟨gl,cap5,rfl,ss⟩;have s5:=s4.join ss;refine And.intro (SO.out _ _ (by simp) s5) ?_;go_simp;clear ss s4 s3;refine Mix.take [13,14] 1 (by kernel_rfl) (by kernel_rfl) (by kernel_rfl) (by intro c a a' w e h;exact⟨e.symm.trans h.1,h.2⟩) (SO.out _ _ (by simp) s5) ?_;intro hne;simp only[Mix.pickOps,List.filterMap_cons,List.filterMap_nil,List.getElem?_toArray,List.getElem?_cons_zero,List.getElem?_cons_succ];repeat (refine Mix.cons_form ?_;go_big_quiet_step (fail))
   refine wpQuiet_nil ?_;clear hne;refine Mix.step (i:=15) (by kernel_rfl) rfl rfl ?_;have hml2:m<ms.length:=by omega
   have e1':(vs++[(uk,uy)]).length=vs.length+1:=by simp
   have s6:=s5.at1;have z1:=s6.own.cellAt (m*3+1) (by have:=j1a ms;omega);have f1:=s6.own.frozenAt (m*3+1);rw[(j2a ms m hml2).2.1]at z1;have s7:=s6.rowSet (m*3+1) (.slice (some ⟨gl,0,none⟩) (vs.length+1) cap5);go_simp;refine Mix.done (by kernel_rfl) ?_;have EP:=je8 ms m ⟨id2,some ⟨gl,0,none⟩,cap5,vs++[(uk,uy)],d2⟩ hml2 NM.1.symm NM.2.2.symm;simp only[e1']at EP;rw[EP]at s7;generalize hW:w6.setCell ⟨G,m*3+1,none⟩ (.slice (some ⟨gl,0,none⟩) (vs.length+1) cap5)=w7 at *;have hnd:=jlh (ns:=ms) (i:=m) (n:=⟨id2,some ⟨gl,0,none⟩,cap5,vs++[(uk,uy)],d2⟩) m hml2;rw[if_pos rfl]at hnd;have hl1:(ms.set m ⟨id2,some ⟨gl,0,none⟩,cap5,vs++[(uk,uy)],d2⟩).length=ns.length:=by simp[hml]
   have hk1':keys (ms.set m ⟨id2,some ⟨gl,0,none⟩,cap5,vs++[(uk,uy)],d2⟩)=(keys ns).set m (id2,vs++[(uk,uy)],d2):=by rw[j6h HKEY.out];rfl
   have hnp:=jqq (ns:=ms) (i:=m) (n:=⟨id2,some ⟨gl,0,none⟩,cap5,vs++[(uk,uy)],d2⟩) hml2;simp only[logRes,e1']at hnp;have s8:=s7.perm (jnv hnp);generalize hM:ms.set m ⟨id2,some ⟨gl,0,none⟩,cap5,vs++[(uk,uy)],d2⟩=ms1 at *;clear s7 s6 s5 z1 f1 hW hM hnp EP e0 e1 e2 e3 e4 e5 e6 SO HS hW0;have z1:=s8.at1.own.cellAt (m*3+1) (by have:=j1a ms1;omega);have z2:=s8.at1.own.cellAt (m*3+2) (by have:=j1a ms1;omega);have f2:=s8.at1.own.frozenAt (m*3+2);rw[(j2a ms1 m (by omega)).2.1,hnd]at z1;rw[(j2a ms1 m (by omega)).2.2,hnd]at z2;simp only[e1']at z1;obtain⟨cO,_⟩:=s8.cells;by_cases hmn:m+1=ns.length
   ·have HD:=HDN.out;rw[if_pos hmn]at HD;have q1:((m:Int)==(ns.length:Int)-1)=true:=by simp;omega
    have s9:=(s8.at1.rowSet (m*3+2) (.int .i64 ((vs.length:Int)+1))).at1;rw[j3f ms1 m _ (by omega)]at s9;rw[<- show nds (ms1.set m { nd ms1 m with done:=(vs.length:Int)+1 })=nds ms1 from jc8 rfl]at s9;have s10:=s9;have KE:Hid (keys (ms1.set m { nd ms1 m with done:=(vs.length:Int)+1 })=(keys ns).set m (id2,vs++[(uk,uy)],dn)):=hid (by
     rw[j6h (ns:=ms1) rfl,hk1',List.set_set,hnd,<- HD];rfl)
    have HL:Hid (ns.length=(ms1.set m { nd ms1 m with done:=(vs.length:Int)+1 }).length):=hid (by simp[hl1]);generalize ms1.set m { nd ms1 m with done:=(vs.length:Int)+1 }=ms2 at *;generalize hW:w7.setCell ⟨G,m*3+2,none⟩ (.int .i64 ((vs.length:Int)+1))=w8 at s10;obtain⟨cO2,cR,fR,qR,t1,q0,t0⟩:=j1u s10;have FIN:=hid (j2d (view:=view) FO2.out (gaveSome t1 HL.out KE.out));clear t1 t0 q0 s8 s9 s10 HD hmn hnd hl1 hk1';go_wp2_with fail
    exact bodyPost_ret (v:=.tuple #[.agg #[.int .i64 view,.slice (some ⟨G,0,none⟩) ns.length ns.length],.bool true]) (by simp[results,Tryz.results99,go_sem,qR]) rfl FIN.out
   ·have HD:=HDN.out;rw[if_neg hmn]at HD;subst HD;have q1:((m:Int)==(ns.length:Int)-1)=false:=by simp;omega
    obtain⟨cO2,cR,fR,qR,t1,q0,t0⟩:=j1u s8;have FIN:=hid (j2d (view:=view) FO2.out (gaveSome t1 hl1.symm hk1'));clear t1 t0 q0 s8 hmn hnd hl1 hk1' cO z1 z2 f2;go_wp2_with fail
    exact bodyPost_ret (v:=.tuple #[.agg #[.int .i64 view,.slice (some ⟨G,0,none⟩) ns.length ns.length],.bool true]) (by simp[results,Tryz.results99,go_sem,qR]) rfl FIN.out
theorem j9d {ns:List Nd}:quietK (keys ns)=true↔∀j,j<ns.length->(nd ns j).us.length=(nd ns 0).us.length/\(nd ns j).done=((nd ns 0).us.length:Nat):=by
 have e:∀i,klen (keys ns) i=(nd ns i).us.length:=λi=>by unfold klen klog;rw[j25];rfl
 have d:∀i,kdone (keys ns) i=(nd ns i).done:=λi=>by unfold kdone;rw[j25];rfl
 simp only[quietK,QP,decide_eq_true_eq,j17,e,d]
theorem jhw {ns:List Nd}{j:Nat}(hj:j<ns.length)(h:¬((nd ns j).us.length=(nd ns 0).us.length/\(nd ns j).done=((nd ns 0).us.length:Nat))):quietK (keys ns)=false:=by
 cases hq:quietK (keys ns)with
 | true=>exact absurd (j9d.1 hq j hj) h
 | false=>rfl
theorem jac (view:Int)(a:Option Addr)(cap:Nat)(ns:List Nd)(w:World)(hv:chainOk view ns=true)(hx:NodesAt w a ns) :
  Calls tnp 25 #[.agg #[.int .i64 view,.slice a ns.length cap]] w λe w'=>e=.returned (.bool (quietK (keys ns)))/\Below w.heap.size w w':=by
 have s0:=(St.start w).alloc (.cells #[.int .i64 view,.slice a ns.length cap] 34);obtain⟨hm,hs,h1,h5,hl⟩:=okS hv;have HV:=hid hv;have HX:=hid (λW (h:Below w.heap.size w W)=>hx.below h);have QI:=hid (j9d (ns:=ns));have QN:=hid (λj=>jhw (ns:=ns) (j:=j));clear hv;go_enter Twn.func25,Tryz.ntmps25
 go_wp2_with fail
 refine(jz _ _ _ _ _ hm hs (HX.out _ s0.below)).mono ?_;rw[HV.out];rintro e w1 ⟨rfl,hb⟩;have s1:=s0.call hb;clear s0 hb;obtain⟨c1,_⟩:=s1.cells;obtain⟨b,off,rfl,p0,p1,p2⟩:=(HX.out _ s1.below).cells 0 (by omega);generalize hL:(nd ns 0).us.length=L at *;clear p0 p2 hx;go_wp2_with fail
 go_loopw [18] (λi wr=>∃k:Nat,k<=ns.length/\i=.int .i64 k/\(∀j,j<k->(nd ns j).us.length=L/\(nd ns j).done=(L:Nat))/\St w wr [box w.heap.size #[.int .i64 view,.slice (some ⟨b,off,none⟩) ns.length cap] 34]) (λi _=>ns.length-(intOf i).toNat)
 case atStart=>exact⟨0,Nat.zero_le _,rfl,λj hj=>absurd hj (by omega),s1⟩
 case round=>
  clear s1 c1 p1;obtain⟨k,hk,rfl,hj,s2⟩:=hrel;have HJ:=hid hj;clear hj;by_cases hlt:k<ns.length
  ·obtain⟨b',off',e',c0,c1,c2⟩:=(HX.out _ s2.below).cells k hlt;cases e';have QNK:=hid (QN.out k hlt);have HK:Hid ((nd ns k).us.length=(nd ns k).us.length/\True):=hid ⟨rfl,trivial⟩;have i1:(0:Int)<=(k:Int):=by omega
   have i2:(k:Int)<(ns.length:Int):=by omega
   have NX:Hid ((nd ns k).us.length=L->(nd ns k).done=(L:Nat)->∀j,j<k+1->(nd ns j).us.length=L/\(nd ns j).done=(L:Nat)):=hid (λh1 h2 j hj=>by
    by_cases e:j=k
    ·subst e;exact⟨h1,h2⟩
    ·exact HJ.out j (by omega))
   have hul:=hl k hlt;clear HK;rcases hN:nd ns k with⟨q,y,c,us,d⟩;rw[hN]at c0 c1 c2 QNK NX hul;dsimp only at c0 c1 c2 QNK NX hul;clear hN;have s3:=s2.alloc (.cells #[.int .i64 q,.slice y us.length c,.int .i64 d] 60);by_cases e1:us.length=L
   ·by_cases e2:d=(L:Nat)
    ·have FIN:=hid s3.drop;have NX2:=hid (NX.out e1 e2);have m1:((us.length:Int) != (L:Int))=false:=by simp[e1]
     have m2:(d != (L:Int))=false:=by simp[e2]
     have m3:((us.length:Int)==(L:Int))=true:=by simp[e1]
     have m4:(d==(L:Int))=true:=by simp[e2]
     clear e1 e2 s3 QNK NX;go_wp2_with fail
     go_roundw
     case rel=>exact⟨k+1,hlt,by go_num,NX2.out,FIN.out⟩
     case measure=>simp[intOf];omega
    ·have FIN:=hid (show quietK (keys ns)=false/\_ from⟨QNK.out λh=>e2 h.2,s3.below⟩);have m1:((us.length:Int) != (L:Int))=false:=by simp[e1]
     have m2:(d != (L:Int))=true:=by simp[e2]
     have m3:((us.length:Int)==(L:Int))=true:=by simp[e1]
     have m4:(d==(L:Int))=false:=by simp[e2]
     clear e1 e2 s3 QNK NX;go_wp2_with fail
     go_ret
     exact⟨by rw[FIN.out.1];rfl,FIN.out.2⟩
   ·have FIN:=hid (show quietK (keys ns)=false/\_ from⟨QNK.out λh=>e1 h.1,s3.below⟩);have m1:((us.length:Int) != (L:Int))=true:=by simp;omega
    have m3:((us.length:Int)==(L:Int))=false:=by simp;omega
    clear e1 s3 QNK NX;go_wp2_with fail
    go_ret
    exact⟨by rw[FIN.out.1];rfl,FIN.out.2⟩
  ·obtain rfl:k=ns.length:=by omega
   have FIN:=hid (show quietK (keys ns)=true/\_ from⟨QI.out.2 HJ.out,s2.below⟩);go_wp2_with fail
   go_ret
   exact⟨by rw[FIN.out.1];rfl,FIN.out.2⟩
def cutB (b:UInt8):List UInt8->List (List UInt8)
 | []=>[[]]
 | c::r=>if c=b then[]::cutB b r else(c::(cutB b r).headD [])::(cutB b r).tail
theorem j4o (b:UInt8):∀s,cutB b s≠[]
 | []=>by simp[cutB]
 | c::r=>by unfold cutB;split<;>simp
theorem j4x {b:UInt8}:∀{p:List UInt8},(∀c∈p,c≠b)->cutB b p=[p]
 | [],_=>rfl
 | c::p,h=>by
  have ih:=j4x (p:=p) λx hx=>h x (by simp[hx]);rw[cutB,if_neg (h c (by simp)),ih];rfl
theorem j7q {b:UInt8}:∀{p:List UInt8},(∀c∈p,c≠b)->∀r,cutB b (p++b::r)=p::cutB b r
 | [],_,r=>by simp[cutB]
 | c::p,h,r=>by
  have ih:=j7q (p:=p) (λx hx=>h x (by simp[hx])) r;rw[List.cons_append,cutB,if_neg (h c (by simp)),ih];rfl
def decN:Nat->Nat->List UInt8
 | 0,_=>[]
 | f+1,n=>if n<10 then[UInt8.ofNat (48+n)]else decN f (n / 10)++[UInt8.ofNat (48+n % 10)]
def decT (n:Nat):List UInt8:=decN 4 n
theorem jkz:∀(f n:Nat),0<f->n<10 ^ f->decN f n=Lib.decDigits n
 | 0,_,h,_=>by omega
 | f+1,n,_,h=>by
  unfold decN;by_cases h1:n<10
  ·rw[if_pos h1,Lib.decDigits_one h1]
  ·rw[if_neg h1];have hf:0<f:=by
    rcases Nat.eq_zero_or_pos f with e|e
    ·subst e;simp at h;omega
    ·exact e
   have h2:n / 10<10 ^ f:=by
    rw[Nat.pow_succ]at h;exact Nat.div_lt_of_lt_mul (by omega)
   rw[jkz f (n / 10) hf h2]
   conv=>rhs;rw[Lib.decDigits,dif_neg h1]
theorem j33 {n:Nat}(h:n<10000):decT n=Lib.decDigits n:=jkz 4 n (by omega) (by simpa using h)
def updC (u:Upd):List UInt8:=decT u.1.toNat++61::decT u.2.toNat
def logC (us:List Upd):List UInt8:=if us.length=0 then[45]else joinC (us.map updC)
def nodeC (k:Key):List UInt8:=decT k.1.toNat++(32::(logC k.2.1++(32::(decT k.2.2.toNat++[10]))))
def chainC (v:Int)(ks:List Key):List UInt8:=[118,105,101,119,32]++(decT v.toNat++(10::ks.flatMap nodeC))
abbrev Mach:=Int×List Key
def OK:List UInt8:=[111,107,10]
def NO:List UInt8:=[110,111,10]
def WHAT:List UInt8:=[119,104,97,116,10]
def QUIET:List UInt8:=[113,117,105,101,116,10]
def BUSY:List UInt8:=[98,117,115,121,10]
def LONG:List UInt8:=[116,111,111,32,108,111,110,103,10]
def NONE:List UInt8:=[110,111,110,101,10]
def IS:List UInt8:=[105,115,32]
def ASKED:List UInt8:=[97,115,107,101,100,32]
def STEPS:List UInt8:=[115,116,101,112,115,32]
def doneK (m:Mach)(v:Int):Option (List Key)->Mach×List UInt8
 | some ks=>((v,ks),OK)
 | none=>(m,NO)
def valK (us:List Upd)(n:Nat)(key:Int):Int:=(runTo empty5 us n).getD key.toNat (-1)
def dirtyK (us:List Upd)(d:Nat)(key:Int):Bool:=(us.drop d).any λu=>decide (u.1=key)
def nodeReadK (k:Key)(key:Int):Int×Int:=
 if dirtyK k.2.1 k.2.2.toNat key=true then(0,1)else if valK k.2.1 k.2.2.toNat key<0 then(0,2)else(valK k.2.1 k.2.2.toNat key,0)
def askK (ks:List Key)(key:Int):Int×Int:=if valK (klog ks (ks.length-1)) (klen ks (ks.length-1)) key<0 then(0,2)else(valK (klog ks (ks.length-1)) (klen ks (ks.length-1)) key,1)
def readAtK (ks:List Key)(id key:Int):Int×Int:=
 if(0<=key/\key<=4)/\0<=place (ks.map (·.1)) id then
  if(nodeReadK (kat ks (place (ks.map (·.1)) id).toNat) key).2=1 then askK ks key else nodeReadK (kat ks (place (ks.map (·.1)) id).toNat) key
 else(0,3)
def readT (r:Int×Int):List UInt8:=if r.2=0 then IS++(decT r.1.toNat++[10])else if r.2=1 then ASKED++(decT r.1.toNat++[10])else if r.2=2 then NONE else NO
def cmdW:Nat->List UInt8
 | 0=>[119,114,105,116,101]
 | 1=>[112,97,115,115]
 | 2=>[116,101,108,108]
 | 3=>[100,114,111,112]
 | 4=>[97,100,100]
 | 5=>[115,101,116,116,108,101]
 | 6=>[114,101,97,100]
 | _=>[115,104,111,119]
def cmdN:Nat->Nat
 | 0=>2
 | 1=>1
 | 2=>1
 | 3=>1
 | 4=>1
 | 5=>0
 | 6=>2
 | _=>0
def findC (w:List UInt8)(n:Nat):Nat->Nat->Option Nat
 | _,0=>none
 | k,r+1=>if cmdW k=w/\cmdN k=n then some k else findC w n (k+1) r
def cmdOf (ws:List (List UInt8)):Option Nat:=findC (ws.headD []) (ws.length-1) 0 8
def doK (m:Mach)(c:Nat)(xs:List Int):Mach×List UInt8:=match c with
 | 0=>doneK m m.1 (writeK m.2 (xs.getD 0 0,xs.getD 1 0))
 | 1=>doneK m m.1 (passK m.2 (xs.getD 0 0))
 | 2=>doneK m m.1 (tellK m.2 (xs.getD 0 0))
 | 3=>doneK m (m.1+1) (dropK m.1 m.2 (xs.getD 0 0))
 | 4=>doneK m (m.1+1) (addK m.1 m.2 (xs.getD 0 0))
 | 5=>((m.1,(settleK m.2).1),STEPS++(decT (settleK m.2).2++[10]))
 | 6=>(m,readT (readAtK m.2 (xs.getD 0 0) (xs.getD 1 0)))
 | _=>(m,chainC m.1 m.2)
def lineW (m:Mach)(ws:List (List UInt8)):Mach×List UInt8:=match cmdOf ws with
 | some c=>doK m c (ws.tail.map numL)
 | none=>(m,WHAT)
def lineK (m:Mach)(line:List UInt8):Mach×List UInt8:=lineW m (cutB 32 line)
def runF (s:Mach×List UInt8)(line:List UInt8):Mach×List UInt8:=((lineK s.1 line).1,s.2++(lineK s.1 line).2)
def startM:Mach:=(0,[(1,[],0),(2,[],0),(3,[],0)])
def runL (ls:List (List UInt8)):Mach×List UInt8:=ls.foldl runF (startM,[])
def endT (m:Mach):List UInt8:=if quietK m.2=true then QUIET else BUSY
def linesOf (t:List UInt8):List (List UInt8):=(cutB 10 t).dropLast
def execT (t:List UInt8):List UInt8:=if 400<t.length then LONG else(runL (linesOf t)).2++endT (runL (linesOf t)).1
theorem j89 (ls:List (List UInt8))(l:List UInt8):runL (ls++[l])=runF (runL ls) l:=by simp[runL]
def Ends (x:List UInt8):Prop:=x=[]\/∃p,x=p++[10]
theorem VP.dropK {v:Int}{ks ls:List Key}{x:Int}(h:dropK v ks x=some ls):VP (v+1) ls:=by
 unfold Go.Proofs.T.dropK at h;split at h
 ·exact VP.guard (w:=0) h
 ·cases h
theorem VP.addK {v:Int}{ks ls:List Key}{x:Int}(h:addK v ks x=some ls):VP (v+1) ls:=VP.guard (w:=0) h
theorem VP.passK {v:Int}{ks ls:List Key}{x:Int}(h:VP v ks)(hp:passK ks x=some ls):VP v ls:=by
 unfold Go.Proofs.T.passK at hp;split at hp
 ·exact h.pass hp
 ·cases hp
theorem VP.tellK {v:Int}{ks ls:List Key}{x:Int}(h:VP v ks)(hp:tellK ks x=some ls):VP v ls:=by
 unfold Go.Proofs.T.tellK at hp;split at hp
 ·exact h.tell hp
 ·cases hp
theorem j7w {m:Mach}{v:Int}{o:Option (List Key)}(h:VP m.1 m.2)(ho:∀ks,o=some ks->VP v ks):VP (doneK m v o).1.1 (doneK m v o).1.2:=by
 cases o with
 | none=>exact h
 | some ks=>exact ho ks rfl
theorem jx4 {m:Mach}(h:VP m.1 m.2)(c:Nat)(xs:List Int):VP (doK m c xs).1.1 (doK m c xs).1.2:=by
 unfold doK;split
 ·exact j7w h λks e=>h.write e
 ·exact j7w h λks e=>h.passK e
 ·exact j7w h λks e=>h.tellK e
 ·exact j7w h λks e=>VP.dropK e
 ·exact j7w h λks e=>VP.addK e
 ·exact(j51 h).2.1
 ·exact h
 ·exact h
theorem jtc {m:Mach}(h:VP m.1 m.2)(l:List UInt8):VP (lineK m l).1.1 (lineK m l).1.2:=by
 unfold lineK lineW;split
 ·exact jx4 h _ _
 ·exact h
theorem jl5:∀(ls:List (List UInt8))(s:Mach×List UInt8),VP s.1.1 s.1.2->VP (ls.foldl runF s).1.1 (ls.foldl runF s).1.2
 | [],_,h=>h
 | l::r,s,h=>jl5 r (runF s l) (jtc h _)
theorem jtt:VP startM.1 startM.2:=by decide
theorem j9e (ls:List (List UInt8)):VP (runL ls).1.1 (runL ls).1.2:=jl5 ls _ jtt
def complete:List UInt8->List UInt8
 | []=>[]
 | c::r=>if 10∈c::r then c::complete r else[]
theorem j3v {t:List UInt8}(h:(10:UInt8)∉t):complete t=[]:=by
 cases t with
 | nil=>rfl
 | cons c r=>rw[complete,if_neg h]
theorem j5z:∀{t:List UInt8},(10:UInt8)∈t->(10:UInt8)∈complete t
 | c::r,h=>by
  rw[complete,if_pos h];by_cases e:(10:UInt8)=c
  ·rw[e];exact List.mem_cons_self
  ·have:(10:UInt8)∈r:=by
    rcases List.mem_cons.1 h with h|h
    ·exact absurd h e
    ·exact h
   exact List.mem_cons_of_mem _ (j5z this)
theorem j4i:∀t:List UInt8,(complete t).length<=t.length
 | []=>Nat.le_refl _
 | c::r=>by
  rw[complete];split
  ·have:=j4i r;simp;exact this
  ·simp
theorem j7n:∀t:List UInt8,Ends (complete t)
 | []=>.inl rfl
 | c::r=>by
  rw[complete];split
  ·rename_i h
   by_cases e:(10:UInt8)∈r
   ·rcases j7n r with h1|⟨p,h1⟩
    ·have:=j5z e;rw[h1]at this;cases this
    ·exact .inr ⟨c::p,by rw[h1];rfl⟩
   ·have hc:(10:UInt8)=c:=by
     rcases List.mem_cons.1 h with h|h
     ·exact h
     ·exact absurd h e
    rw[j3v e,<- hc];exact .inr ⟨[],rfl⟩
  ·exact .inl rfl
theorem j7o:∀(t:List UInt8)(i:Nat),0<i->i<=t.length->t[i-1]?=some 10->(∀j,i<=j->j<t.length->t[j]?≠some 10)->complete t=t.take i
 | [],i,h1,h2,_,_=>by simp at h2;omega
 | c::r,i,h1,h2,h3,h4=>by
  have hm:(10:UInt8)∈c::r:=List.mem_of_getElem? h3;rw[complete,if_pos hm];obtain⟨i,rfl⟩:∃k,i=k+1:=⟨i-1,by omega⟩;rw[List.take_succ_cons];congr 1;by_cases e:i=0
  ·subst e;rw[List.take_zero];refine j3v λhr=>?_;obtain⟨j,hj,he⟩:=List.getElem_of_mem hr;exact h4 (j+1) (by omega) (by simp;omega) (by rw[List.getElem?_cons_succ,List.getElem?_eq_getElem hj,he])
  ·refine j7o r i (by omega) (by simp at h2;omega) ?_ λj hj hj2=>?_
   ·have:i+1-1=(i-1)+1:=by omega
    rw[this,List.getElem?_cons_succ]at h3;exact h3
   ·have:=h4 (j+1) (by omega) (by simp;omega);rwa[List.getElem?_cons_succ]at this
theorem j7r {b:UInt8}:∀{r:List UInt8},b∈r->∃h x t,cutB b r=h::x::t
 | c::r,hm=>by
  by_cases e:c=b
  ·rw[cutB,if_pos e];cases hc:cutB b r with
   | nil=>exact absurd hc (j4o b r)
   | cons x t=>exact⟨[],x,t,rfl⟩
  ·have:b∈r:=by
    rcases List.mem_cons.1 hm with h|h
    ·exact absurd h.symm e
    ·exact h
   obtain⟨h,x,t,hh⟩:=j7r this;rw[cutB,if_neg e,hh];exact⟨c::h,x,t,rfl⟩
theorem j4s:∀t,linesOf (complete t)=linesOf t
 | []=>rfl
 | c::r=>by
  have ih:=j4s r;unfold linesOf at ih ⊢;by_cases hm:(10:UInt8)∈c::r
  ·rw[complete,if_pos hm];by_cases e:c=10
   ·rw[cutB,if_pos e,cutB,if_pos e,List.dropLast_cons_of_ne_nil (j4o _ _),List.dropLast_cons_of_ne_nil (j4o _ _),ih]
   ·have hr:(10:UInt8)∈r:=by
     rcases List.mem_cons.1 hm with h|h
     ·exact absurd h.symm e
     ·exact h
    obtain⟨h,x,t,hh⟩:=j7r hr;obtain⟨h',x',t',hh'⟩:=j7r (j5z hr);rw[cutB,if_neg e,cutB,if_neg e,hh,hh'];rw[hh,hh',List.dropLast_cons_cons,List.dropLast_cons_cons]at ih;simp only[List.cons.injEq]at ih;simp only[List.headD_cons,List.tail_cons,List.dropLast_cons_cons];rw[ih.1,ih.2]
  ·rw[j3v hm,j4x (p:=c::r) (λx hx e=>hm (by rw[<- e];exact hx))];rfl
theorem jf8 {t:List UInt8}(h:t.length<=400):execT (complete t)=execT t:=by
 have:=j4i t;unfold execT;rw[if_neg (by omega),if_neg (by omega),j4s]
theorem jkx:∀{x:List UInt8},Ends x->∀y,cutB 10 (x++y)=linesOf x++cutB 10 y
 | [],_,y=>rfl
 | c::r,h,y=>by
  have hr:Ends r:=by
   rcases h with h|⟨p,h⟩
   ·cases h
   ·cases p with
    | nil=>simp at h;exact .inl h.2
    | cons a p=>simp at h;exact .inr ⟨p,h.2⟩
  have ih:=jkx hr y;unfold linesOf at ih ⊢;by_cases e:c=10
  ·rw[List.cons_append,cutB,if_pos e,ih]
   conv=>rhs;rw[cutB,if_pos e,List.dropLast_cons_of_ne_nil (j4o _ _)]
   rfl
  ·have hm:(10:UInt8)∈r:=by
    rcases h with h|⟨p,h⟩
    ·cases h
    ·cases p with
     | nil=>simp at h;exact absurd h.1 e
     | cons a p=>simp at h;rw[h.2];simp
   obtain⟨h',x',t',hh'⟩:=j7r hm;rw[List.cons_append,cutB,if_neg e,ih]
   conv=>rhs;rw[cutB,if_neg e,hh']
   rw[hh'];simp only[List.cons_append,List.headD_cons,List.tail_cons,List.dropLast_cons_cons]
theorem jnl {x l:List UInt8}(hx:Ends x)(hl:∀c∈l,c≠10):linesOf (x++(l++[10]))=linesOf x++[l]:=by
 unfold linesOf;rw[jkx hx,j7q hl []];show(linesOf x++[l,[]]).dropLast=linesOf x++[l];rw[List.dropLast_append_of_ne_nil (by simp)];rfl
theorem jpl {t l:List UInt8}(h:t.length+l.length+1<=400)(hl:∀c∈l,c≠10):execT (complete t++(l++[10]))=(runF (runL (linesOf t)) l).2++endT (runF (runL (linesOf t)) l).1:=by
 have:=j4i t;unfold execT;rw[if_neg (by simp;omega),jnl (j7n t) hl,j4s,j89]
theorem jdx (m:Mach):endT m=QUIET\/endT m=BUSY:=by
 unfold endT;split
 ·exact .inl rfl
 ·exact .inr rfl
theorem jva (t:List UInt8):execT t≠[]:=by
 unfold execT;split
 ·simp[LONG]
 ·rcases jdx (runL (linesOf t)).1 with h|h
  ·rw[h];simp[QUIET]
  ·rw[h];simp[BUSY]
def SETTLE:List UInt8:=[115,101,116,116,108,101,10]
theorem jjm (m:Mach):lineK m [115,101,116,116,108,101]=((m.1,(settleK m.2).1),STEPS++(decT (settleK m.2).2++[10])):=rfl
theorem jk8 {t:List UInt8}(h:t.length+7<=400):∃x,execT (complete t++SETTLE)=x++QUIET:=by
 have e:=jpl (t:=t) (l:=[115,101,116,116,108,101]) (by simp;omega) (by decide);show∃x,execT (complete t++([115,101,116,116,108,101]++[10]))=_;rw[e];unfold runF;rw[jjm];refine⟨_,congrArg _ ?_⟩;unfold endT;rw[if_pos (j51 (j9e (linesOf t))).2.2.1]
end Go.Proofs.T
