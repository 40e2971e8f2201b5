/-
  A part of the proof.
-/
import Derived.Test.YtbcegllhelfijaaGreatDoorY22
set_option linter.all false
set_option maxRecDepth 100000
set_option maxHeartbeats 8000000
namespace Go.Proofs.T
open Lib (hid)
open Go.RowKit
def MachAt (w0 w:World)(M:Nat)(m:Mach)(rs:List Res):Prop:=
 ∃(a:Option Addr) (cap:Nat) (ms:List Nd),keys ms=m.2/\St w0 w (box M #[.int .i64 m.1,.slice a ms.length cap] 40::row (.slice a ms.length cap) 60 3 ms.length (ncells ms)::(nds ms++rs))
theorem j4w (M:Nat)(v0 v:Int)(s0:Value)(a:Option Addr)(n c:Nat)(rs:List Res)(w0 w:World)(hM:St w0 w (box M #[.int .i64 v0,s0] 40::rs)) :
  Calls tnp 97 #[.pointer (some ⟨M,0,none⟩),.agg #[.int .i64 v,.slice a n c],.bool true] w λe w'=>e=.returned (.string ⟨OK.toArray⟩)/\St w0 w' (box M #[.int .i64 v,.slice a n c] 40::rs):=by
 have lM:=hM.lt.2;obtain⟨c1,f1⟩:=hM.cells;have FIN:=hid (((hM.set 0 (.int .i64 v)).set 1 (.slice a n c)).alloc (.cells #[.int .i64 v,.slice a n c] 34)).drop;clear hM;go_enter Twn.func97,Tryz.ntmps97
 go_wp2_with fail
 go_ret
 exact⟨rfl,FIN.out⟩
theorem j5t (M:Nat)(v:Int)(a:Option Addr)(n c:Nat)(w:World) :
  Calls tnp 97 #[.pointer (some ⟨M,0,none⟩),.agg #[.int .i64 v,.slice a n c],.bool false] w λe w'=>e=.returned (.string ⟨NO.toArray⟩)/\Below w.heap.size w w':=by
 have FIN:=hid ((St.start w).alloc (.cells #[.int .i64 v,.slice a n c] 34)).below;go_enter Twn.func97,Tryz.ntmps97
 go_wp2_with fail
 go_ret
 exact⟨rfl,FIN.out⟩
theorem jha (M:Nat)(m:Mach)(a:Option Addr)(cap:Nat)(xs:List Int)(rs:List Res)(w0 w:World)(hM:MachAt w0 w M m rs)(hv:VP m.1 m.2)(hx:IntsAt w a xs)(hn:xs.length=1) :
  Calls tnp 77 #[.pointer (some ⟨M,0,none⟩),.slice a xs.length cap] w λe w'=>e=.returned (.string ⟨(doK m 1 xs).2.toArray⟩)/\MachAt w0 w' M (doK m 1 xs).1 rs:=by
 obtain⟨v,ks⟩:=m;obtain⟨am,cm,ms,hk,s0⟩:=hM;simp only at hk hv s0;subst hk;have hcv:chainOk v ms=true:=by rw[jt];exact j1p.2 hv
 have DK:Hid (doK (v,keys ms) 1 xs=doneK (v,keys ms) v (passK (keys ms) (xs.getD 0 0))):=hid rfl;have HX:=j1s s0 rfl;have CC:=hid (λW (h:Below w.heap.size w W)=>j5q v am cm ms (xs.getD 0 0) W hcv (HX.below h));obtain⟨b,off,rfl,hcell⟩:=hx.resolve_left (by intro h;rw[h]at hn;simp at hn);have x0:w.cell? ⟨b,off,none⟩=some (.int .i64 (xs.getD 0 0)):=hcell 0 (by omega);have b0:=s0.boxIn (V:=M) (cs:=#[.int .i64 v,.slice am ms.length cm]) (t:=40) (by simp) 0 rfl;have b1:=s0.boxIn (V:=M) (cs:=#[.int .i64 v,.slice am ms.length cm]) (t:=40) (by simp) 1 rfl;obtain⟨S,hS⟩:=Mix.named (λw'=>w'.cell? ⟨M,0,none⟩=some (.int .i64 v)/\w'.cell? ⟨M,1,none⟩=some (.slice am ms.length cm)/\w'.cell? ⟨b,off,none⟩=some (.int .i64 (xs.getD 0 0)));have HS:=hid hS;have e0:=Mix.held_cell (λw h=>((hS w).1 h).1);have e1:=Mix.held_cell (λw h=>((hS w).1 h).2.1);have e2:=Mix.held_cell (λw h=>((hS w).1 h).2.2);clear hS;have SO:=hid (λW (h:Below w.heap.size w W)=>(HS.out W).2 ⟨(h.cell (p:=⟨M,0,none⟩) (jo b0)).trans b0,(h.cell (p:=⟨M,1,none⟩) (jo b1)).trans b1,(h.cell (p:=⟨b,off,none⟩) (jo x0)).trans x0⟩);have hm1:xs.length=1:=hn;generalize passK (keys ms) (xs.getD 0 0)=o at *;generalize xs.getD 0 0=y0 at *;clear hcell hx hn b0 b1 x0 HX hv hcv;go_enter Twn.func77,Tryz.ntmps77
 go_wp2_with fail
 have s1:=s0.drew;have hb1:=(St.start w).drew.below;clear s0;refine Mix.start S 11 (by kernel_rfl) ?_;generalize w.drew=w1 at *;refine Mix.take [0,1,2,3,4,5,6,7] 5 (by kernel_rfl) (by kernel_rfl) (by kernel_rfl) (by intro c a a' w e h;exact⟨e.symm.trans h.1,h.2⟩) (SO.out _ hb1) ?_;intro hne;simp only[Mix.pickOps,List.filterMap_cons,List.filterMap_nil,List.getElem?_toArray,List.getElem?_cons_zero,List.getElem?_cons_succ];repeat (refine Mix.cons_form ?_;go_big_quiet_step (fail))
 refine wpQuiet_nil ?_;clear hne;refine Mix.step (i:=8) (by kernel_rfl) rfl rfl ?_;go_simp;refine(CC.out _ hb1).mono ?_;intro e w2 hg;cases o with
 | none=>
  obtain⟨a',cap',ms',rfl,-,ss⟩:=hg;have s2:=(s1.join ss).rest;have hb2:=hb1.trans (ss.below.mono hb1.size);refine And.intro (SO.out _ hb2) ?_;go_simp;clear ss s1;refine Mix.take [9,10] 2 (by kernel_rfl) (by kernel_rfl) (by kernel_rfl) (by intro c a a' w e h;exact⟨e.symm.trans h.1,h.2⟩) (SO.out _ hb2) ?_;intro hne;simp only[Mix.pickOps,List.filterMap_cons,List.filterMap_nil,List.getElem?_toArray,List.getElem?_cons_zero,List.getElem?_cons_succ];repeat (refine Mix.cons_form ?_;go_big_quiet_step (fail))
  refine wpQuiet_nil ?_;clear hne;refine Mix.step (i:=11) (by kernel_rfl) rfl rfl ?_;go_simp;refine(j5t M _ _ _ _ _).mono ?_;rintro e w3 ⟨rfl,hb3⟩;have FIN:=hid (s2.call hb3);go_simp;refine Mix.step (i:=12) (by kernel_rfl) rfl rfl ?_;go_simp;refine Mix.done (by kernel_rfl) ?_;clear hb1 hb2 hb3 s2;go_wp2_with fail
  go_ret
  exact⟨by rw[DK.out];rfl,by rw[DK.out];exact⟨am,cm,ms,rfl,FIN.out⟩⟩
 | some ls=>
  obtain⟨a',cap',ms',rfl,hk,ss⟩:=hg;have s2:=(s1.join ss).perm (List.perm_middle (l₁:=row (.slice a' ms'.length cap') 60 3 ms'.length (ncells ms')::nds ms'));have hb2:=hb1.trans (ss.below.mono hb1.size);refine And.intro (SO.out _ hb2) ?_;go_simp;clear ss s1;refine Mix.take [9,10] 2 (by kernel_rfl) (by kernel_rfl) (by kernel_rfl) (by intro c a a' w e h;exact⟨e.symm.trans h.1,h.2⟩) (SO.out _ hb2) ?_;intro hne;simp only[Mix.pickOps,List.filterMap_cons,List.filterMap_nil,List.getElem?_toArray,List.getElem?_cons_zero,List.getElem?_cons_succ];repeat (refine Mix.cons_form ?_;go_big_quiet_step (fail))
  refine wpQuiet_nil ?_;clear hne;refine Mix.step (i:=11) (by kernel_rfl) rfl rfl ?_;go_simp;refine(j4w M _ _ _ _ _ _ _ _ _ s2).mono ?_;rintro e w3 ⟨rfl,s3⟩;have FIN:=hid (St.skip (A:=box M #[.int .i64 v,.slice a' ms'.length cap'] 40::row (.slice a' ms'.length cap') 60 3 ms'.length (ncells ms')::nds ms') (G:=row (.slice am ms.length cm) 60 3 ms.length (ncells ms)::nds ms) s3);have HK:=hid hk;go_simp;refine Mix.step (i:=12) (by kernel_rfl) rfl rfl ?_;go_simp;refine Mix.done (by kernel_rfl) ?_;clear hb1 hb2 s2 s3 hk;go_wp2_with fail
  go_ret
  exact⟨by rw[DK.out];rfl,by rw[DK.out];exact⟨a',cap',ms',HK.out,FIN.out⟩⟩
theorem jhd (M:Nat)(m:Mach)(a:Option Addr)(cap:Nat)(xs:List Int)(rs:List Res)(w0 w:World)(hM:MachAt w0 w M m rs)(hv:VP m.1 m.2)(hx:IntsAt w a xs)(hn:xs.length=1) :
  Calls tnp 78 #[.pointer (some ⟨M,0,none⟩),.slice a xs.length cap] w λe w'=>e=.returned (.string ⟨(doK m 2 xs).2.toArray⟩)/\MachAt w0 w' M (doK m 2 xs).1 rs:=by
 obtain⟨v,ks⟩:=m;obtain⟨am,cm,ms,hk,s0⟩:=hM;simp only at hk hv s0;subst hk;have hcv:chainOk v ms=true:=by rw[jt];exact j1p.2 hv
 have DK:Hid (doK (v,keys ms) 2 xs=doneK (v,keys ms) v (tellK (keys ms) (xs.getD 0 0))):=hid rfl;have HX:=j1s s0 rfl;have CC:=hid (λW (h:Below w.heap.size w W)=>j5r v am cm ms (xs.getD 0 0) W hcv (HX.below h));obtain⟨b,off,rfl,hcell⟩:=hx.resolve_left (by intro h;rw[h]at hn;simp at hn);have x0:w.cell? ⟨b,off,none⟩=some (.int .i64 (xs.getD 0 0)):=hcell 0 (by omega);have b0:=s0.boxIn (V:=M) (cs:=#[.int .i64 v,.slice am ms.length cm]) (t:=40) (by simp) 0 rfl;have b1:=s0.boxIn (V:=M) (cs:=#[.int .i64 v,.slice am ms.length cm]) (t:=40) (by simp) 1 rfl;obtain⟨S,hS⟩:=Mix.named (λw'=>w'.cell? ⟨M,0,none⟩=some (.int .i64 v)/\w'.cell? ⟨M,1,none⟩=some (.slice am ms.length cm)/\w'.cell? ⟨b,off,none⟩=some (.int .i64 (xs.getD 0 0)));have HS:=hid hS;have e0:=Mix.held_cell (λw h=>((hS w).1 h).1);have e1:=Mix.held_cell (λw h=>((hS w).1 h).2.1);have e2:=Mix.held_cell (λw h=>((hS w).1 h).2.2);clear hS;have SO:=hid (λW (h:Below w.heap.size w W)=>(HS.out W).2 ⟨(h.cell (p:=⟨M,0,none⟩) (jo b0)).trans b0,(h.cell (p:=⟨M,1,none⟩) (jo b1)).trans b1,(h.cell (p:=⟨b,off,none⟩) (jo x0)).trans x0⟩);have hm1:xs.length=1:=hn;generalize tellK (keys ms) (xs.getD 0 0)=o at *;generalize xs.getD 0 0=y0 at *;clear hcell hx hn b0 b1 x0 HX hv hcv;go_enter Twn.func78,Tryz.ntmps78
 go_wp2_with fail
 have s1:=s0.drew;have hb1:=(St.start w).drew.below;clear s0;refine Mix.start S 11 (by kernel_rfl) ?_;generalize w.drew=w1 at *;refine Mix.take [0,1,2,3,4,5,6,7] 5 (by kernel_rfl) (by kernel_rfl) (by kernel_rfl) (by intro c a a' w e h;exact⟨e.symm.trans h.1,h.2⟩) (SO.out _ hb1) ?_;intro hne;simp only[Mix.pickOps,List.filterMap_cons,List.filterMap_nil,List.getElem?_toArray,List.getElem?_cons_zero,List.getElem?_cons_succ];repeat (refine Mix.cons_form ?_;go_big_quiet_step (fail))
 refine wpQuiet_nil ?_;clear hne;refine Mix.step (i:=8) (by kernel_rfl) rfl rfl ?_;go_simp;refine(CC.out _ hb1).mono ?_;intro e w2 hg;cases o with
 | none=>
  obtain⟨a',cap',ms',rfl,-,ss⟩:=hg;have s2:=(s1.join ss).rest;have hb2:=hb1.trans (ss.below.mono hb1.size);refine And.intro (SO.out _ hb2) ?_;go_simp;clear ss s1;refine Mix.take [9,10] 2 (by kernel_rfl) (by kernel_rfl) (by kernel_rfl) (by intro c a a' w e h;exact⟨e.symm.trans h.1,h.2⟩) (SO.out _ hb2) ?_;intro hne;simp only[Mix.pickOps,List.filterMap_cons,List.filterMap_nil,List.getElem?_toArray,List.getElem?_cons_zero,List.getElem?_cons_succ];repeat (refine Mix.cons_form ?_;go_big_quiet_step (fail))
  refine wpQuiet_nil ?_;clear hne;refine Mix.step (i:=11) (by kernel_rfl) rfl rfl ?_;go_simp;refine(j5t M _ _ _ _ _).mono ?_;rintro e w3 ⟨rfl,hb3⟩;have FIN:=hid (s2.call hb3);go_simp;refine Mix.step (i:=12) (by kernel_rfl) rfl rfl ?_;go_simp;refine Mix.done (by kernel_rfl) ?_;clear hb1 hb2 hb3 s2;go_wp2_with fail
  go_ret
  exact⟨by rw[DK.out];rfl,by rw[DK.out];exact⟨am,cm,ms,rfl,FIN.out⟩⟩
 | some ls=>
  obtain⟨a',cap',ms',rfl,hk,ss⟩:=hg;have s2:=(s1.join ss).perm (List.perm_middle (l₁:=row (.slice a' ms'.length cap') 60 3 ms'.length (ncells ms')::nds ms'));have hb2:=hb1.trans (ss.below.mono hb1.size);refine And.intro (SO.out _ hb2) ?_;go_simp;clear ss s1;refine Mix.take [9,10] 2 (by kernel_rfl) (by kernel_rfl) (by kernel_rfl) (by intro c a a' w e h;exact⟨e.symm.trans h.1,h.2⟩) (SO.out _ hb2) ?_;intro hne;simp only[Mix.pickOps,List.filterMap_cons,List.filterMap_nil,List.getElem?_toArray,List.getElem?_cons_zero,List.getElem?_cons_succ];repeat (refine Mix.cons_form ?_;go_big_quiet_step (fail))
  refine wpQuiet_nil ?_;clear hne;refine Mix.step (i:=11) (by kernel_rfl) rfl rfl ?_;go_simp;refine(j4w M _ _ _ _ _ _ _ _ _ s2).mono ?_;rintro e w3 ⟨rfl,s3⟩;have FIN:=hid (St.skip (A:=box M #[.int .i64 v,.slice a' ms'.length cap'] 40::row (.slice a' ms'.length cap') 60 3 ms'.length (ncells ms')::nds ms') (G:=row (.slice am ms.length cm) 60 3 ms.length (ncells ms)::nds ms) s3);have HK:=hid hk;go_simp;refine Mix.step (i:=12) (by kernel_rfl) rfl rfl ?_;go_simp;refine Mix.done (by kernel_rfl) ?_;clear hb1 hb2 s2 s3 hk;go_wp2_with fail
  go_ret
  exact⟨by rw[DK.out];rfl,by rw[DK.out];exact⟨a',cap',ms',HK.out,FIN.out⟩⟩
theorem jh9 (M:Nat)(m:Mach)(a:Option Addr)(cap:Nat)(xs:List Int)(rs:List Res)(w0 w:World)(hM:MachAt w0 w M m rs)(hv:VP m.1 m.2)(hx:IntsAt w a xs)(hn:xs.length=1) :
  Calls tnp 79 #[.pointer (some ⟨M,0,none⟩),.slice a xs.length cap] w λe w'=>e=.returned (.string ⟨(doK m 3 xs).2.toArray⟩)/\MachAt w0 w' M (doK m 3 xs).1 rs:=by
 obtain⟨v,ks⟩:=m;obtain⟨am,cm,ms,hk,s0⟩:=hM;simp only at hk hv s0;subst hk;have hcv:chainOk v ms=true:=by rw[jt];exact j1p.2 hv
 have DK:Hid (doK (v,keys ms) 3 xs=doneK (v,keys ms) (v+1) (dropK v (keys ms) (xs.getD 0 0))):=hid rfl;have HX:=j1s s0 rfl;have CC:=hid (λW (h:Below w.heap.size w W)=>jis v am cm ms (xs.getD 0 0) W hcv (HX.below h));obtain⟨b,off,rfl,hcell⟩:=hx.resolve_left (by intro h;rw[h]at hn;simp at hn);have x0:w.cell? ⟨b,off,none⟩=some (.int .i64 (xs.getD 0 0)):=hcell 0 (by omega);have b0:=s0.boxIn (V:=M) (cs:=#[.int .i64 v,.slice am ms.length cm]) (t:=40) (by simp) 0 rfl;have b1:=s0.boxIn (V:=M) (cs:=#[.int .i64 v,.slice am ms.length cm]) (t:=40) (by simp) 1 rfl;obtain⟨S,hS⟩:=Mix.named (λw'=>w'.cell? ⟨M,0,none⟩=some (.int .i64 v)/\w'.cell? ⟨M,1,none⟩=some (.slice am ms.length cm)/\w'.cell? ⟨b,off,none⟩=some (.int .i64 (xs.getD 0 0)));have HS:=hid hS;have e0:=Mix.held_cell (λw h=>((hS w).1 h).1);have e1:=Mix.held_cell (λw h=>((hS w).1 h).2.1);have e2:=Mix.held_cell (λw h=>((hS w).1 h).2.2);clear hS;have SO:=hid (λW (h:Below w.heap.size w W)=>(HS.out W).2 ⟨(h.cell (p:=⟨M,0,none⟩) (jo b0)).trans b0,(h.cell (p:=⟨M,1,none⟩) (jo b1)).trans b1,(h.cell (p:=⟨b,off,none⟩) (jo x0)).trans x0⟩);have hm1:xs.length=1:=hn;generalize dropK v (keys ms) (xs.getD 0 0)=o at *;generalize xs.getD 0 0=y0 at *;clear hcell hx hn b0 b1 x0 HX hv hcv;go_enter Twn.func79,Tryz.ntmps79
 go_wp2_with fail
 have s1:=s0.drew;have hb1:=(St.start w).drew.below;clear s0;refine Mix.start S 11 (by kernel_rfl) ?_;generalize w.drew=w1 at *;refine Mix.take [0,1,2,3,4,5,6,7] 5 (by kernel_rfl) (by kernel_rfl) (by kernel_rfl) (by intro c a a' w e h;exact⟨e.symm.trans h.1,h.2⟩) (SO.out _ hb1) ?_;intro hne;simp only[Mix.pickOps,List.filterMap_cons,List.filterMap_nil,List.getElem?_toArray,List.getElem?_cons_zero,List.getElem?_cons_succ];repeat (refine Mix.cons_form ?_;go_big_quiet_step (fail))
 refine wpQuiet_nil ?_;clear hne;refine Mix.step (i:=8) (by kernel_rfl) rfl rfl ?_;go_simp;refine(CC.out _ hb1).mono ?_;intro e w2 hg;cases o with
 | none=>
  obtain⟨a',cap',ms',rfl,-,ss⟩:=hg;have s2:=(s1.join ss).rest;have hb2:=hb1.trans (ss.below.mono hb1.size);refine And.intro (SO.out _ hb2) ?_;go_simp;clear ss s1;refine Mix.take [9,10] 2 (by kernel_rfl) (by kernel_rfl) (by kernel_rfl) (by intro c a a' w e h;exact⟨e.symm.trans h.1,h.2⟩) (SO.out _ hb2) ?_;intro hne;simp only[Mix.pickOps,List.filterMap_cons,List.filterMap_nil,List.getElem?_toArray,List.getElem?_cons_zero,List.getElem?_cons_succ];repeat (refine Mix.cons_form ?_;go_big_quiet_step (fail))
  refine wpQuiet_nil ?_;clear hne;refine Mix.step (i:=11) (by kernel_rfl) rfl rfl ?_;go_simp;refine(j5t M _ _ _ _ _).mono ?_;rintro e w3 ⟨rfl,hb3⟩;have FIN:=hid (s2.call hb3);go_simp;refine Mix.step (i:=12) (by kernel_rfl) rfl rfl ?_;go_simp;refine Mix.done (by kernel_rfl) ?_;clear hb1 hb2 hb3 s2;go_wp2_with fail
  go_ret
  exact⟨by rw[DK.out];rfl,by rw[DK.out];exact⟨am,cm,ms,rfl,FIN.out⟩⟩
 | some ls=>
  obtain⟨a',cap',ms',rfl,hk,ss⟩:=hg;have s2:=(s1.join ss).perm (List.perm_middle (l₁:=row (.slice a' ms'.length cap') 60 3 ms'.length (ncells ms')::nds ms'));have hb2:=hb1.trans (ss.below.mono hb1.size);refine And.intro (SO.out _ hb2) ?_;go_simp;clear ss s1;refine Mix.take [9,10] 2 (by kernel_rfl) (by kernel_rfl) (by kernel_rfl) (by intro c a a' w e h;exact⟨e.symm.trans h.1,h.2⟩) (SO.out _ hb2) ?_;intro hne;simp only[Mix.pickOps,List.filterMap_cons,List.filterMap_nil,List.getElem?_toArray,List.getElem?_cons_zero,List.getElem?_cons_succ];repeat (refine Mix.cons_form ?_;go_big_quiet_step (fail))
  refine wpQuiet_nil ?_;clear hne;refine Mix.step (i:=11) (by kernel_rfl) rfl rfl ?_;go_simp;refine(j4w M _ _ _ _ _ _ _ _ _ s2).mono ?_;rintro e w3 ⟨rfl,s3⟩;have FIN:=hid (St.skip (A:=box M #[.int .i64 (v+1),.slice a' ms'.length cap'] 40::row (.slice a' ms'.length cap') 60 3 ms'.length (ncells ms')::nds ms') (G:=row (.slice am ms.length cm) 60 3 ms.length (ncells ms)::nds ms) s3);have HK:=hid hk;go_simp;refine Mix.step (i:=12) (by kernel_rfl) rfl rfl ?_;go_simp;refine Mix.done (by kernel_rfl) ?_;clear hb1 hb2 s2 s3 hk;go_wp2_with fail
  go_ret
  exact⟨by rw[DK.out];rfl,by rw[DK.out];exact⟨a',cap',ms',HK.out,FIN.out⟩⟩
theorem jjo (M:Nat)(m:Mach)(a:Option Addr)(cap:Nat)(xs:List Int)(rs:List Res)(w0 w:World)(hM:MachAt w0 w M m rs)(hv:VP m.1 m.2)(hx:IntsAt w a xs)(hn:xs.length=1) :
  Calls tnp 80 #[.pointer (some ⟨M,0,none⟩),.slice a xs.length cap] w λe w'=>e=.returned (.string ⟨(doK m 4 xs).2.toArray⟩)/\MachAt w0 w' M (doK m 4 xs).1 rs:=by
 obtain⟨v,ks⟩:=m;obtain⟨am,cm,ms,hk,s0⟩:=hM;simp only at hk hv s0;subst hk;have hcv:chainOk v ms=true:=by rw[jt];exact j1p.2 hv
 have DK:Hid (doK (v,keys ms) 4 xs=doneK (v,keys ms) (v+1) (addK v (keys ms) (xs.getD 0 0))):=hid rfl;have HX:=j1s s0 rfl;have CC:=hid (λW (h:Below w.heap.size w W)=>jm2 v am cm ms (xs.getD 0 0) W hcv (HX.below h));obtain⟨b,off,rfl,hcell⟩:=hx.resolve_left (by intro h;rw[h]at hn;simp at hn);have x0:w.cell? ⟨b,off,none⟩=some (.int .i64 (xs.getD 0 0)):=hcell 0 (by omega);have b0:=s0.boxIn (V:=M) (cs:=#[.int .i64 v,.slice am ms.length cm]) (t:=40) (by simp) 0 rfl;have b1:=s0.boxIn (V:=M) (cs:=#[.int .i64 v,.slice am ms.length cm]) (t:=40) (by simp) 1 rfl;obtain⟨S,hS⟩:=Mix.named (λw'=>w'.cell? ⟨M,0,none⟩=some (.int .i64 v)/\w'.cell? ⟨M,1,none⟩=some (.slice am ms.length cm)/\w'.cell? ⟨b,off,none⟩=some (.int .i64 (xs.getD 0 0)));have HS:=hid hS;have e0:=Mix.held_cell (λw h=>((hS w).1 h).1);have e1:=Mix.held_cell (λw h=>((hS w).1 h).2.1);have e2:=Mix.held_cell (λw h=>((hS w).1 h).2.2);clear hS;have SO:=hid (λW (h:Below w.heap.size w W)=>(HS.out W).2 ⟨(h.cell (p:=⟨M,0,none⟩) (jo b0)).trans b0,(h.cell (p:=⟨M,1,none⟩) (jo b1)).trans b1,(h.cell (p:=⟨b,off,none⟩) (jo x0)).trans x0⟩);have hm1:xs.length=1:=hn;generalize addK v (keys ms) (xs.getD 0 0)=o at *;generalize xs.getD 0 0=y0 at *;clear hcell hx hn b0 b1 x0 HX hv hcv;go_enter Twn.func80,Tryz.ntmps80
 go_wp2_with fail
 have s1:=s0.drew;have hb1:=(St.start w).drew.below;clear s0;refine Mix.start S 11 (by kernel_rfl) ?_;generalize w.drew=w1 at *;refine Mix.take [0,1,2,3,4,5,6,7] 5 (by kernel_rfl) (by kernel_rfl) (by kernel_rfl) (by intro c a a' w e h;exact⟨e.symm.trans h.1,h.2⟩) (SO.out _ hb1) ?_;intro hne;simp only[Mix.pickOps,List.filterMap_cons,List.filterMap_nil,List.getElem?_toArray,List.getElem?_cons_zero,List.getElem?_cons_succ];repeat (refine Mix.cons_form ?_;go_big_quiet_step (fail))
 refine wpQuiet_nil ?_;clear hne;refine Mix.step (i:=8) (by kernel_rfl) rfl rfl ?_;go_simp;refine(CC.out _ hb1).mono ?_;intro e w2 hg;cases o with
 | none=>
  obtain⟨a',cap',ms',rfl,-,ss⟩:=hg;have s2:=(s1.join ss).rest;have hb2:=hb1.trans (ss.below.mono hb1.size);refine And.intro (SO.out _ hb2) ?_;go_simp;clear ss s1;refine Mix.take [9,10] 2 (by kernel_rfl) (by kernel_rfl) (by kernel_rfl) (by intro c a a' w e h;exact⟨e.symm.trans h.1,h.2⟩) (SO.out _ hb2) ?_;intro hne;simp only[Mix.pickOps,List.filterMap_cons,List.filterMap_nil,List.getElem?_toArray,List.getElem?_cons_zero,List.getElem?_cons_succ];repeat (refine Mix.cons_form ?_;go_big_quiet_step (fail))
  refine wpQuiet_nil ?_;clear hne;refine Mix.step (i:=11) (by kernel_rfl) rfl rfl ?_;go_simp;refine(j5t M _ _ _ _ _).mono ?_;rintro e w3 ⟨rfl,hb3⟩;have FIN:=hid (s2.call hb3);go_simp;refine Mix.step (i:=12) (by kernel_rfl) rfl rfl ?_;go_simp;refine Mix.done (by kernel_rfl) ?_;clear hb1 hb2 hb3 s2;go_wp2_with fail
  go_ret
  exact⟨by rw[DK.out];rfl,by rw[DK.out];exact⟨am,cm,ms,rfl,FIN.out⟩⟩
 | some ls=>
  obtain⟨a',cap',ms',rfl,hk,ss⟩:=hg;have s2:=(s1.join ss).perm (List.perm_middle (l₁:=row (.slice a' ms'.length cap') 60 3 ms'.length (ncells ms')::nds ms'));have hb2:=hb1.trans (ss.below.mono hb1.size);refine And.intro (SO.out _ hb2) ?_;go_simp;clear ss s1;refine Mix.take [9,10] 2 (by kernel_rfl) (by kernel_rfl) (by kernel_rfl) (by intro c a a' w e h;exact⟨e.symm.trans h.1,h.2⟩) (SO.out _ hb2) ?_;intro hne;simp only[Mix.pickOps,List.filterMap_cons,List.filterMap_nil,List.getElem?_toArray,List.getElem?_cons_zero,List.getElem?_cons_succ];repeat (refine Mix.cons_form ?_;go_big_quiet_step (fail))
  refine wpQuiet_nil ?_;clear hne;refine Mix.step (i:=11) (by kernel_rfl) rfl rfl ?_;go_simp;refine(j4w M _ _ _ _ _ _ _ _ _ s2).mono ?_;rintro e w3 ⟨rfl,s3⟩;have FIN:=hid (St.skip (A:=box M #[.int .i64 (v+1),.slice a' ms'.length cap'] 40::row (.slice a' ms'.length cap') 60 3 ms'.length (ncells ms')::nds ms') (G:=row (.slice am ms.length cm) 60 3 ms.length (ncells ms)::nds ms) s3);have HK:=hid hk;go_simp;refine Mix.step (i:=12) (by kernel_rfl) rfl rfl ?_;go_simp;refine Mix.done (by kernel_rfl) ?_;clear hb1 hb2 s2 s3 hk;go_wp2_with fail
  go_ret
  exact⟨by rw[DK.out];rfl,by rw[DK.out];exact⟨a',cap',ms',HK.out,FIN.out⟩⟩
theorem jfm (M:Nat)(m:Mach)(a:Option Addr)(cap:Nat)(xs:List Int)(rs:List Res)(w0 w:World)(p:Addr)(hE:ErrTake w p)(hM:MachAt w0 w M m rs)(hv:VP m.1 m.2)(hx:IntsAt w a xs)(hn:xs.length=2) :
  Calls tnp 76 #[.pointer (some ⟨M,0,none⟩),.slice a xs.length cap] w λe w'=>e=.returned (.string ⟨(doK m 0 xs).2.toArray⟩)/\MachAt w0 w' M (doK m 0 xs).1 rs:=by
 obtain⟨v,ks⟩:=m;obtain⟨am,cm,ms,hk,s0⟩:=hM;simp only at hk hv s0;subst hk;have hcv:chainOk v ms=true:=by rw[jt];exact j1p.2 hv
 have DK:Hid (doK (v,keys ms) 0 xs=doneK (v,keys ms) v (writeK (keys ms) (xs.getD 0 0,xs.getD 1 0))):=hid rfl;have HX:=j1s s0 rfl;have CC:=hid (λW (h:Below w.heap.size w W)=>jad v am cm ms (xs.getD 0 0) (xs.getD 1 0) p W hcv (HX.below h) (hE.below h));obtain⟨b,off,rfl,hcell⟩:=hx.resolve_left (by intro h;rw[h]at hn;simp at hn);have x0:w.cell? ⟨b,off,none⟩=some (.int .i64 (xs.getD 0 0)):=hcell 0 (by omega);have x1:w.cell? ⟨b,off+1,none⟩=some (.int .i64 (xs.getD 1 0)):=hcell 1 (by omega);have b0:=s0.boxIn (V:=M) (cs:=#[.int .i64 v,.slice am ms.length cm]) (t:=40) (by simp) 0 rfl;have b1:=s0.boxIn (V:=M) (cs:=#[.int .i64 v,.slice am ms.length cm]) (t:=40) (by simp) 1 rfl;obtain⟨S,hS⟩:=Mix.named (λw'=>w'.cell? ⟨M,0,none⟩=some (.int .i64 v)/\w'.cell? ⟨M,1,none⟩=some (.slice am ms.length cm)/\w'.cell? ⟨b,off,none⟩=some (.int .i64 (xs.getD 0 0))/\w'.cell? ⟨b,off+1,none⟩=some (.int .i64 (xs.getD 1 0)));have HS:=hid hS;have e0:=Mix.held_cell (λw h=>((hS w).1 h).1);have e1:=Mix.held_cell (λw h=>((hS w).1 h).2.1);have e2:=Mix.held_cell (λw h=>((hS w).1 h).2.2.1);have e3:=Mix.held_cell (λw h=>((hS w).1 h).2.2.2);clear hS;have SO:=hid (λW (h:Below w.heap.size w W)=>(HS.out W).2 ⟨(h.cell (p:=⟨M,0,none⟩) (jo b0)).trans b0,(h.cell (p:=⟨M,1,none⟩) (jo b1)).trans b1,(h.cell (p:=⟨b,off,none⟩) (jo x0)).trans x0,(h.cell (p:=⟨b,off+1,none⟩) (jo x1)).trans x1⟩);have hm1:xs.length=2:=hn;generalize writeK (keys ms) (xs.getD 0 0,xs.getD 1 0)=o at *;generalize xs.getD 0 0=y0 at *;generalize xs.getD 1 0=y1 at *;clear hcell hx hn b0 b1 x0 x1 HX hv hcv;go_enter Twn.func76,Tryz.ntmps76
 go_wp2_with fail
 have s1:=s0.drew;have hb1:=(St.start w).drew.below;clear s0;refine Mix.start S 15 (by kernel_rfl) ?_;generalize w.drew=w1 at *;refine Mix.take [0,1,2,3,4,5,6,7,8,9,10,11] 5 (by kernel_rfl) (by kernel_rfl) (by kernel_rfl) (by intro c a a' w e h;exact⟨e.symm.trans h.1,h.2⟩) (SO.out _ hb1) ?_;intro hne;simp only[Mix.pickOps,List.filterMap_cons,List.filterMap_nil,List.getElem?_toArray,List.getElem?_cons_zero,List.getElem?_cons_succ];repeat (refine Mix.cons_form ?_;go_big_quiet_step (fail))
 refine wpQuiet_nil ?_;clear hne;refine Mix.step (i:=12) (by kernel_rfl) rfl rfl ?_;go_simp;refine(CC.out _ hb1).mono ?_;intro e w2 hg;cases o with
 | none=>
  obtain⟨a',cap',ms',rfl,-,ss⟩:=hg;have s2:=(s1.join ss).rest;have hb2:=hb1.trans (ss.below.mono hb1.size);refine And.intro (SO.out _ hb2) ?_;go_simp;clear ss s1;refine Mix.take [13,14] 2 (by kernel_rfl) (by kernel_rfl) (by kernel_rfl) (by intro c a a' w e h;exact⟨e.symm.trans h.1,h.2⟩) (SO.out _ hb2) ?_;intro hne;simp only[Mix.pickOps,List.filterMap_cons,List.filterMap_nil,List.getElem?_toArray,List.getElem?_cons_zero,List.getElem?_cons_succ];repeat (refine Mix.cons_form ?_;go_big_quiet_step (fail))
  refine wpQuiet_nil ?_;clear hne;refine Mix.step (i:=15) (by kernel_rfl) rfl rfl ?_;go_simp;refine(j5t M _ _ _ _ _).mono ?_;rintro e w3 ⟨rfl,hb3⟩;have FIN:=hid (s2.call hb3);go_simp;refine Mix.step (i:=16) (by kernel_rfl) rfl rfl ?_;go_simp;refine Mix.done (by kernel_rfl) ?_;clear hb1 hb2 hb3 s2;go_wp2_with fail
  go_ret
  exact⟨by rw[DK.out];rfl,by rw[DK.out];exact⟨am,cm,ms,rfl,FIN.out⟩⟩
 | some ls=>
  obtain⟨a',cap',ms',rfl,hk,ss⟩:=hg;have s2:=(s1.join ss).perm (List.perm_middle (l₁:=row (.slice a' ms'.length cap') 60 3 ms'.length (ncells ms')::nds ms'));have hb2:=hb1.trans (ss.below.mono hb1.size);refine And.intro (SO.out _ hb2) ?_;go_simp;clear ss s1;refine Mix.take [13,14] 2 (by kernel_rfl) (by kernel_rfl) (by kernel_rfl) (by intro c a a' w e h;exact⟨e.symm.trans h.1,h.2⟩) (SO.out _ hb2) ?_;intro hne;simp only[Mix.pickOps,List.filterMap_cons,List.filterMap_nil,List.getElem?_toArray,List.getElem?_cons_zero,List.getElem?_cons_succ];repeat (refine Mix.cons_form ?_;go_big_quiet_step (fail))
  refine wpQuiet_nil ?_;clear hne;refine Mix.step (i:=15) (by kernel_rfl) rfl rfl ?_;go_simp;refine(j4w M _ _ _ _ _ _ _ _ _ s2).mono ?_;rintro e w3 ⟨rfl,s3⟩;have FIN:=hid (St.skip (A:=box M #[.int .i64 v,.slice a' ms'.length cap'] 40::row (.slice a' ms'.length cap') 60 3 ms'.length (ncells ms')::nds ms') (G:=row (.slice am ms.length cm) 60 3 ms.length (ncells ms)::nds ms) s3);have HK:=hid hk;go_simp;refine Mix.step (i:=16) (by kernel_rfl) rfl rfl ?_;go_simp;refine Mix.done (by kernel_rfl) ?_;clear hb1 hb2 s2 s3 hk;go_wp2_with fail
  go_ret
  exact⟨by rw[DK.out];rfl,by rw[DK.out];exact⟨a',cap',ms',HK.out,FIN.out⟩⟩
theorem jwc {u:Upd}(h:updOk u=true):updC u=updT u:=by
 have h1:(0<=u.1/\u.1<=4)/\(0<=u.2/\u.2<=99):=by
  obtain⟨k,v⟩:=u;simp[updOk]at h;omega
 unfold updC updT;rw[j33 (by omega),j33 (by omega)];simp
theorem jvj {us:List Upd}(h:logOk us=true):logC us=logT us:=by
 unfold logC;by_cases e:us.length=0
 ·rw[if_pos e,logT,if_pos e]
 ·rw[if_neg e,jqk (by intro h;exact e (by simp[h]))];cases us with
  | nil=>simp at e
  | cons u r=>
   rw[show(u::r).length=r.length+1 from rfl,jbx];congr 1;refine List.map_congr_left λx hx=>jwc ((j2i.1 h).2 x hx)
theorem jti {n:Nd}(h:nodeOk n.id n.us n.done=true):nodeC (keyOf n)=nodeT n:=by
 obtain⟨h1,h2,h3,h4⟩:=j1o.1 h;have h5:=(j2i.1 h2).1;unfold nodeC nodeT keyOf;simp only;rw[jvj h2,j33 (by omega),j33 (by omega)];simp
theorem jld {view:Int}{ns:List Nd}(hv:chainOk view ns=true):∀k,k<=ns.length->linesT view ns k=headT view++(keys (ns.take k)).flatMap nodeC
 | 0,_=>by simp[linesT,keys]
 | k+1,hk=>by
  have h1:k<ns.length:=by omega
  have:=((j1c.1 hv).2.2.1 k h1).1;rw[j3o h1]at this;rw[linesT,jld hv k (by omega),List.take_succ_eq_append_getElem h1,show keys (ns.take k++[ns[k]])=keys (ns.take k)++[keyOf ns[k]] by (unfold keys;rw[List.map_append];rfl),List.flatMap_append,List.append_assoc,j3o h1];simp[jti this]
theorem j5s {view:Int}{ns:List Nd}(hv:chainOk view ns=true):chainText view ns=chainC view (keys ns):=by
 have h1:=(j1c.1 hv).1;unfold chainText chainC;rw[if_pos hv,jld hv _ (Nat.le_refl _),List.take_length,headT,j33 (by omega)];simp
theorem MachAt.call {w0 w w':World}{M:Nat}{m:Mach}{rs:List Res}(h:MachAt w0 w M m rs)(hb:Below w.heap.size w w'):MachAt w0 w' M m rs:=by
 obtain⟨a,cap,ms,hk,s⟩:=h;exact⟨a,cap,ms,hk,s.call hb⟩
theorem jhc (M:Nat)(m:Mach)(a:Option Addr)(cap:Nat)(xs:List Int)(rs:List Res)(w0 w:World)(hM:MachAt w0 w M m rs)(hv:VP m.1 m.2)(ht:Pow10 w0) :
  Calls tnp 83 #[.pointer (some ⟨M,0,none⟩),.slice a xs.length cap] w λe w'=>e=.returned (.string ⟨(doK m 7 xs).2.toArray⟩)/\MachAt w0 w' M (doK m 7 xs).1 rs:=by
 have MC:=hid (λW (h:Below w.heap.size w W)=>hM.call h);obtain⟨v,ks⟩:=m;obtain⟨am,cm,ms,hk,s0⟩:=hM;simp only at hk hv s0;subst hk;have hcv:chainOk v ms=true:=by rw[jt];exact j1p.2 hv
 obtain⟨hm,hs,h1,h5,hl⟩:=okS hcv;have CT:=jb4 v am cm ms w hm hs (j1s s0 rfl) (ht.below s0.below);rw[j5s hcv]at CT;obtain⟨c0,_⟩:=s0.cells;clear s0 hv ht hs;go_enter Twn.func83,Tryz.ntmps83
 go_wp2_with fail
 refine CT.mono ?_;rintro e w1 ⟨rfl,hb⟩;have FIN:=hid (MC.out _ hb);clear CT c0 hb;go_wp2_with fail
 go_ret
 exact⟨rfl,FIN.out⟩
theorem j9b {x y z:List UInt8}(a b:List UInt8)(h1:a++b=x)(h2:x++y=z)(hl:z.length<=1000):(∀W,(Op.stringOp .add ⟨a.toArray⟩ ⟨b.toArray⟩).run tnp W=.ok (.string ⟨x.toArray⟩) W)/\∀W,(Op.stringOp .add ⟨x.toArray⟩ ⟨y.toArray⟩).run tnp W=.ok (.string ⟨z.toArray⟩) W:=by
 have:x.length+y.length=z.length:=by rw[<- h2];simp
 exact⟨λW=>j3k h1 (by omega) W,λW=>j3k h2 (by omega) W⟩
theorem jde (M:Nat)(m:Mach)(a:Option Addr)(cap:Nat)(xs:List Int)(rs:List Res)(w0 w:World)(hM:MachAt w0 w M m rs)(hv:VP m.1 m.2)(ht:Pow10 w0) :
  Calls tnp 81 #[.pointer (some ⟨M,0,none⟩),.slice a xs.length cap] w λe w'=>e=.returned (.string ⟨(doK m 5 xs).2.toArray⟩)/\MachAt w0 w' M (doK m 5 xs).1 rs:=by
 obtain⟨v,ks⟩:=m;obtain⟨am,cm,ms,hk,s0⟩:=hM;simp only at hk hv s0;subst hk;have hcv:chainOk v ms=true:=by rw[jt];exact j1p.2 hv
 have CS:=j8t v am cm ms w hcv (j1s s0 rfl);have DK:Hid (doK (v,keys ms) 5 xs=((v,(settleK (keys ms)).1),STEPS++(decT (settleK (keys ms)).2++[10]))):=hid rfl;have h64:=(j51 hv).2.2.2;generalize settleK (keys ms)=sk at *;obtain⟨k1,n⟩:=sk;simp only at CS DK h64;rw[j33 (by omega)]at DK;have dl:=j1f n;obtain⟨x,hx⟩:∃x,STEPS++Lib.decDigits n=x:=⟨_,rfl⟩;obtain⟨z,hz⟩:∃z,x++[10]=z:=⟨_,rfl⟩;have hzl:z.length<=1000:=by rw[<- hz,<- hx];simp[STEPS];omega
 obtain⟨ct1,ct2⟩:=j9b _ _ hx hz hzl;simp only[STEPS]at ct1;rw[<- List.append_assoc,hx,hz]at DK;have IT:=hid (λW (h:Below w0.heap.size w0 W)=>j6g n (by omega) W (ht.below h));obtain⟨c0,_⟩:=s0.cells;have lM:=s0.lt.2;clear hx hz hzl ht hcv hv;go_enter Twn.func81,Tryz.ntmps81
 go_wp2_with fail
 refine CS.mono ?_;rintro e w1 ⟨a',cap',ms',rfl,hk,ss⟩;have lM1:M<w1.heap.size:=Nat.lt_of_lt_of_le lM ss.below.size;have hb0:=ss.below;have s1:=(s0.join ss).perm (List.perm_middle (l₁:=row (.slice a' ms'.length cap') 60 3 ms'.length (ncells ms')::nds ms'));obtain⟨c1,f1⟩:=s1.cells;have s2:=((s1.set 0 (.int .i64 v)).set 1 (.slice a' ms'.length cap')).alloc (.cells #[.int .i64 v,.slice a' ms'.length cap'] 34);have HK:=hid hk;clear CS c0 s0 ss hk;go_wp2_with fail
 refine(IT.out _ s2.below).mono ?_;rintro e w3 ⟨rfl,hb3⟩;have FIN:=hid (St.skip (A:=box M #[.int .i64 v,.slice a' ms'.length cap'] 40::row (.slice a' ms'.length cap') 60 3 ms'.length (ncells ms')::nds ms') (G:=row (.slice am ms.length cm) 60 3 ms.length (ncells ms)::nds ms) (s2.drop.call hb3));clear s1 s2 hb3 hb0 c1 f1;go_wp2_with fail
 go_ret
 exact⟨by rw[DK.out];rfl,by rw[DK.out];exact⟨a',cap',ms',HK.out,FIN.out⟩⟩
def ValOk (x:Int):Prop:=x=-1\/(0<=x/\x<=99)
theorem jps:∀(us:List Upd)(s:List Int),(∀u∈us,updOk u=true)->(∀x∈s,ValOk x)->∀x∈us.foldl (λs u=>s.set u.1.toNat u.2) s,ValOk x
 | [],_,_,h=>h
 | u::r,s,hu,h=>by
  refine jps r _ (λv hv=>hu v (List.mem_cons_of_mem _ hv)) λx hx=>?_;rcases List.mem_or_eq_of_mem_set hx with h1|h1
  ·exact h x h1
  ·have h2:=hu u List.mem_cons_self;obtain⟨k,v⟩:=u;simp[updOk]at h2;rw[h1];exact .inr (by simp only;omega)
theorem js3 {us:List Upd}(h:logOk us=true)(n:Nat)(key:Int):ValOk (valK us n key):=by
 unfold valK;rw[List.getD_eq_getElem?_getD];cases hx:(runTo empty5 us n)[key.toNat]? with
 | none=>exact .inl rfl
 | some x=>
  refine jps (us.take n) empty5 (λu hu=>(j2i.1 h).2 u (List.mem_of_mem_take hu)) ?_ x (List.mem_of_getElem? hx);intro x hx;simp[empty5]at hx;exact .inl hx
def ReadIs (r:Int×Int):Prop:=(∃n:Nat,n<=99/\r=((n:Int),0))\/(∃n:Nat,n<=99/\r=((n:Int),1))\/r=(0,2)\/r=(0,3)
theorem jju {k:Key}(h:logOk k.2.1=true)(key:Int):ReadIs (nodeReadK k key)\/nodeReadK k key=(0,1):=by
 unfold nodeReadK;split
 ·exact .inr rfl
 ·split
  ·exact .inl (.inr (.inr (.inl rfl)))
  ·rename_i h2
   rcases js3 h k.2.2.toNat key with h3|h3
   ·omega
   ·exact .inl (.inl ⟨(valK k.2.1 k.2.2.toNat key).toNat,by omega,by rw[Int.toNat_of_nonneg h3.1]⟩)
theorem jhz {v:Int}{ks:List Key}(hv:VP v ks)(id key:Int):ReadIs (readAtK ks id key):=by
 have hask:ReadIs (askK ks key):=by
  unfold askK;split
  ·exact .inr (.inr (.inl rfl))
  ·rename_i h2
   rcases js3 (hv.log (ks.length-1) (by have:=hv.2.1;omega)).1 (klen ks (ks.length-1)) key with h3|h3
   ·omega
   ·exact .inr (.inl ⟨(valK (klog ks (ks.length-1)) (klen ks (ks.length-1)) key).toNat,by omega,by rw[Int.toNat_of_nonneg h3.1]⟩)
 unfold readAtK;split
 ·rename_i h1
  split
  ·exact hask
  ·rename_i h2
   obtain⟨i,hi,_,e⟩:=j6j h1.2;rw[e,Int.toNat_natCast]at h2 ⊢;rcases jju (k:=kat ks i) (hv.log i (by simpa using hi)).1 key with h|h
   ·exact h
   ·exact absurd (by rw[h]) h2
 ·exact .inr (.inr (.inr rfl))
theorem jhb (M:Nat)(m:Mach)(a:Option Addr)(cap:Nat)(xs:List Int)(rs:List Res)(w0 w:World)(hM:MachAt w0 w M m rs)(hv:VP m.1 m.2)(ht:Pow10 w0)(hx:IntsAt w a xs)(hn:xs.length=2) :
  Calls tnp 82 #[.pointer (some ⟨M,0,none⟩),.slice a xs.length cap] w λe w'=>e=.returned (.string ⟨(doK m 6 xs).2.toArray⟩)/\MachAt w0 w' M (doK m 6 xs).1 rs:=by
 have MC:=hid (λW (h:Below w.heap.size w W)=>hM.call h);obtain⟨v,ks⟩:=m;obtain⟨am,cm,ms,hk,s0⟩:=hM;simp only at hk hv s0;subst hk;have hcv:chainOk v ms=true:=by rw[jt];exact j1p.2 hv
 have DK:Hid (doK (v,keys ms) 6 xs=((v,keys ms),readT (readAtK (keys ms) (xs.getD 0 0) (xs.getD 1 0)))):=hid rfl;have CR:=hid (λx:Grown w=>j8s v am cm ms (xs.getD 0 0) (xs.getD 1 0) (grow w x) hcv ((j1s s0 rfl).below (j1b x)));have RI:=jhz hv (xs.getD 0 0) (xs.getD 1 0);generalize readAtK (keys ms) (xs.getD 0 0) (xs.getD 1 0)=r at *;have PW:=hid (λW (h:Below w.heap.size w W)=>ht.below (s0.below.trans (h.mono s0.below.size)));obtain⟨b,off,rfl,hcell⟩:=hx.resolve_left (by intro h;rw[h]at hn;simp at hn);have x0:w.cell? ⟨b,off,none⟩=some (.int .i64 (xs.getD 0 0)):=hcell 0 (by omega);have x1:w.cell? ⟨b,off+1,none⟩=some (.int .i64 (xs.getD 1 0)):=hcell 1 (by omega);have b0:=s0.boxIn (V:=M) (cs:=#[.int .i64 v,.slice am ms.length cm]) (t:=40) (by simp) 0 rfl;have b1:=s0.boxIn (V:=M) (cs:=#[.int .i64 v,.slice am ms.length cm]) (t:=40) (by simp) 1 rfl;have g0:=jf b0;have g1:=jf b1;have g2:=jf x0;have g3:=jf x1;generalize xs.getD 0 0=y0 at *;generalize xs.getD 1 0=y1 at *;have RIH:=hid RI;clear RI hcell hx x0 x1 b0 b1 s0 ht hv hcv;go_enter Twn.func82,Tryz.ntmps82
 go_wp2_with fail
 refine jm (by kernel_rfl) (by kernel_rfl) ?_;repeat (go_big_quiet_step (((go_at_call 105;exact Calls.grow_of (CR.out _)))))
 refine wpQuiet_nil ?_;rintro _ ⟨x,rfl⟩;have hb:=j1b x;generalize grow w x=w1 at *;have M1:=hid (MC.out _ hb);have P1:=hid (PW.out _ hb);clear g0 g1 g2 g3 CR MC PW hn;rcases RIH.out with⟨n,hn9,rfl⟩|⟨n,hn9,rfl⟩|rfl|rfl
 ·have dl:=j1f n;obtain⟨x',hx⟩:∃x,[105,115,32]++Lib.decDigits n=x:=⟨_,rfl⟩;obtain⟨z,hz⟩:∃z,x'++[10]=z:=⟨_,rfl⟩;have hzl:z.length<=1000:=by rw[<- hz,<- hx];simp;omega
  obtain⟨ct1,ct2⟩:=j9b _ _ hx hz hzl;have R:Hid (readT ((n:Int),0)=z):=hid (by
   unfold readT;rw[if_pos rfl,Int.toNat_natCast,j33 (by omega),<- hz,<- hx];simp[IS])
  clear hx hz hzl;go_wp2_with fail
  refine(j6g n (by omega) _ P1.out).mono ?_;rintro e w2 ⟨rfl,hb2⟩;have FIN:=hid (M1.out.call hb2);clear hb2;go_wp2_with fail
  go_ret
  exact⟨by rw[DK.out,R.out];rfl,by rw[DK.out];exact FIN.out⟩
 ·have dl:=j1f n;obtain⟨x',hx⟩:∃x,[97,115,107,101,100,32]++Lib.decDigits n=x:=⟨_,rfl⟩;obtain⟨z,hz⟩:∃z,x'++[10]=z:=⟨_,rfl⟩;have hzl:z.length<=1000:=by rw[<- hz,<- hx];simp;omega
  obtain⟨ct1,ct2⟩:=j9b _ _ hx hz hzl;have R:Hid (readT ((n:Int),1)=z):=hid (by
   unfold readT;rw[if_neg (by simp),if_pos rfl,Int.toNat_natCast,j33 (by omega),<- hz,<- hx];simp[ASKED])
  clear hx hz hzl;go_wp2_with fail
  refine(j6g n (by omega) _ P1.out).mono ?_;rintro e w2 ⟨rfl,hb2⟩;have FIN:=hid (M1.out.call hb2);clear hb2;go_wp2_with fail
  go_ret
  exact⟨by rw[DK.out,R.out];rfl,by rw[DK.out];exact FIN.out⟩
 ·go_wp2_with fail
  go_ret
  exact⟨by rw[DK.out];rfl,by rw[DK.out];exact M1.out⟩
 ·go_wp2_with fail
  go_ret
  exact⟨by rw[DK.out];rfl,by rw[DK.out];exact M1.out⟩
def badV (l:List UInt8):Value:=.iface 63 (.agg #[.string ⟨l.toArray⟩])
def NumEnds (l:List UInt8)(e:Ending):Prop:=if 0<=numL l then e=.returned (.int .i64 (numL l))else e=.panicked [{ v:=badV NO,recovered:=false }]
theorem j73 {l:List UInt8}(h:numL l=-1):NumEnds l (.panicked [{ v:=.iface 63 (.agg #[.string ⟨#[110,111,10]⟩]),recovered:=false }]):=by
 unfold NumEnds;rw[if_neg (by omega)];rfl
theorem jhk {l:List UInt8}{n:Nat}(h:numL l=n):NumEnds l (.returned (.int .i64 n)):=by
 unfold NumEnds;rw[if_pos (by omega),h]
theorem jdh (S:ByteArray)(w:World)(hS:S.size<=140737488355328) :
  Calls tnp 37 #[.string S] w λe w'=>NumEnds S.data.toList e/\w=w':=by
 have hlen:S.data.toList.length=S.size:=by simp
 by_cases h:1<=S.size/\S.size<=2
 ·have FN:Hid (numL S.data.toList=orMinus (digsOf 0 S.data.toList)):=hid (by rw[numL,if_pos (by omega)]);have h1:decide ((S.size:Int)<1)=false:=by simp;omega
  have h2:decide ((2:Int)<(S.size:Int))=false:=by simp;omega
  have h3:=h.2;clear h hlen;go_enter Twn.func37,Tryz.ntmps37
  go_wp2_with fail
  go_loop [3,17] (λn i=>∃k a:Nat,k<=S.size/\i=.int .i64 k/\n=.int .i64 a/\(k=0/\a=0\/k=1/\a<=9\/k=2/\a<=99)/\digsOf a (S.data.toList.drop k)=digsOf 0 S.data.toList) (λ_ i=>S.size-(intOf i).toNat)
  case atStart=>exact⟨0,0,Nat.zero_le _,rfl,rfl,.inl ⟨rfl,rfl⟩,rfl⟩
  case round=>
   obtain⟨k,a,hk,rfl,rfl,hb,hd⟩:=hrel;by_cases hlt:k<S.size
   ·have DS:=hid (jgm hlt hd);obtain⟨c,hc⟩:∃c:Nat,S[k].toNat=c:=⟨_,rfl⟩;have i1:(k:Int)<(S.size:Int):=by omega
    have hcl:c<256:=by rw[<- hc];exact UInt8.toNat_lt _
    by_cases g1:c<48
    ·have F:=hid (j73 (l:=S.data.toList) (by rw[FN.out,DS.out,hc,if_neg (by omega)];rfl));have t1:decide ((c:Int)<48)=true:=by simp;omega
     clear hb hd g1;go_wp2_with fail
     refine⟨rfl,?_⟩;exact⟨F.out,rfl⟩
    ·by_cases g2:57<c
     ·have F:=hid (j73 (l:=S.data.toList) (by rw[FN.out,DS.out,hc,if_neg (by omega)];rfl));have t1:decide ((c:Int)<48)=false:=by simp;omega
      have t2:decide ((57:Int)<(c:Int))=true:=by simp;omega
      clear hb hd g1 g2;go_wp2_with fail
      refine⟨rfl,?_⟩;exact⟨F.out,rfl⟩
     ·have t1:decide ((c:Int)<48)=false:=by simp;omega
      have t2:decide ((57:Int)<(c:Int))=false:=by simp;omega
      have g3:(48:Int)<=(c:Int):=by omega
      have g4:(c:Int)<=57:=by omega
      have ab:(a:Int)<=99:=by omega
      have D2:Hid (digsOf (10*a+(c-48)) (S.data.toList.drop (k+1))=digsOf 0 S.data.toList):=hid (by rw[DS.out,hc,if_pos (by omega)]);have B2:Hid (k+1=0/\10*a+(c-48)=0\/k+1=1/\10*a+(c-48)<=9\/k+1=2/\10*a+(c-48)<=99):=hid (by omega);clear hb hd g1 g2;go_wp2_with fail
      go_round
      case rel=>exact⟨k+1,10*a+(c-48),hlt,by go_num,by go_num,B2.out,D2.out⟩
      case measure=>simp[intOf];omega
   ·have ek:S.data.toList.drop k=[]:=List.drop_of_length_le (by simp;omega);rw[ek]at hd;have F:=hid (jhk (l:=S.data.toList) (n:=a) (by rw[FN.out,<- hd];rfl));clear hd hb ek;go_wp2_with fail
    go_ret
    exact⟨F.out,rfl⟩
 ·have F:=hid (j73 (l:=S.data.toList) (by rw[numL,if_neg (by omega)]));by_cases h1:S.size<1
  ·have t1:decide ((S.size:Int)<1)=true:=by simp;omega
   clear h hlen h1;go_enter Twn.func37,Tryz.ntmps37
   go_wp2_with fail
   refine⟨rfl,?_⟩;exact⟨F.out,rfl⟩
  ·have t1:decide ((S.size:Int)<1)=false:=by simp;omega
   have t2:decide ((2:Int)<(S.size:Int))=true:=by simp;omega
   clear h hlen h1;go_enter Twn.func37,Tryz.ntmps37
   go_wp2_with fail
   refine⟨rfl,?_⟩;exact⟨F.out,rfl⟩
def strB (l:List UInt8):Value:=.string ⟨l.toArray⟩
def cmdF:Nat->FuncId
 | 0=>76
 | 1=>77
 | 2=>78
 | 3=>79
 | 4=>80
 | 5=>81
 | 6=>82
 | _=>83
def cmdC (k:Nat):List Value:=[strB (cmdW k),.int .i64 (cmdN k),.func (.func (cmdF k)) #[] #[]]
def cmdCs:List Value:=cmdC 0++(cmdC 1++(cmdC 2++(cmdC 3++(cmdC 4++(cmdC 5++(cmdC 6++cmdC 7))))))
theorem jsu:∀k,k<8->cmdCs[k*3]?=some (strB (cmdW k))/\cmdCs[k*3+1]?=some (.int .i64 (cmdN k))/\cmdCs[k*3+2]?=some (.func (.func (cmdF k)) #[] #[])
 | 0,_|1,_|2,_|3,_|4,_|5,_|6,_|7,_=>⟨rfl,rfl,rfl⟩
 | k+8,h=>by omega
theorem jd5 (w:World):Calls tnp 55 #[] w λe w'=>∃g,e=.returned (.slice (some ⟨g,0,none⟩) 8 8)/\St w w' [row (.slice (some ⟨g,0,none⟩) 8 8) 66 3 8 cmdCs]:=by
 have FIN:=hid (((St.start w).alloc (.cells cmdCs.toArray 66)).madeRow 3 8 rfl (by simp[maxLen]) 8 (Nat.le_refl _));go_enter Twn.func55,Tryz.ntmps55
 go_wp2_with fail
 go_ret
 exact⟨_,rfl,FIN.out⟩
def CmdEnds (l0:List UInt8)(n:Nat)(e:Ending):Prop:=match findC l0 n 0 8 with
 | some c=>e=.returned (.agg #[strB (cmdW c),.int .i64 (cmdN c),.func (.func (cmdF c)) #[] #[]])
 | none=>e=.panicked [{ v:=badV WHAT,recovered:=false }]
theorem jpo {l0:List UInt8}{n k r:Nat}(h1:cmdW k=l0)(h2:cmdN k=n):findC l0 n k (r+1)=some k:=by
 rw[findC,if_pos ⟨h1,h2⟩]
theorem jn1 {l0:List UInt8}{n k r:Nat}(h:¬(cmdW k=l0/\cmdN k=n)):findC l0 n k (r+1)=findC l0 n (k+1) r:=by
 rw[findC,if_neg h]
theorem jj1 {l0:List UInt8}{n k:Nat}(h:findC l0 n 0 8=some k):CmdEnds l0 n (.returned (.agg #[strB (cmdW k),.int .i64 (cmdN k),.func (.func (cmdF k)) #[] #[]])):=by
 unfold CmdEnds;rw[h]
theorem jgk {l0:List UInt8}{n:Nat}(h:findC l0 n 0 8=none):CmdEnds l0 n (.panicked [{ v:=badV WHAT,recovered:=false }]):=by
 unfold CmdEnds;rw[h]
theorem jbj (a:Option Addr)(cap:Nat)(l0:List UInt8)(n:Nat)(w:World)(hn:n<=1000)(hx:CellsAt w a [strB l0]) :
  Calls tnp 36 #[.slice a (n+1) cap] w λe w'=>CmdEnds l0 n e/\Below w.heap.size w w':=by
 have s0:=(St.start w).alloc (.cells #[.string ⟨#[]⟩,.int .i64 0,.nilFunc] 66);obtain⟨b,off,rfl,hcell⟩:=hx.resolve_left (by simp);have x0:w.cell? ⟨b,off,none⟩=some (strB l0):=hcell 0 (by simp);have CX:=hid (λW (h:Below w.heap.size w W)=>(h.cell (p:=⟨b,off,none⟩) (jo x0)).trans x0);clear hx hcell x0;go_enter Twn.func36,Tryz.ntmps36
 go_wp2_with fail
 refine(jd5 _).mono ?_;rintro e w1 ⟨g,rfl,ss⟩;have s1:=s0.join ss;simp only[List.cons_append,List.nil_append]at s1;clear ss s0;go_wp2_with fail
 go_loopw [7] (λi wr=>∃k:Nat,k<=8/\i=.int .i64 k/\findC l0 n 0 8=findC l0 n k (8-k)/\St w wr [row (.slice (some ⟨g,0,none⟩) 8 8) 66 3 8 cmdCs,box w.heap.size #[.string ⟨#[]⟩,.int .i64 0,.nilFunc] 66]) (λi _=>8-(intOf i).toNat)
 case atStart=>exact⟨0,Nat.zero_le _,rfl,rfl,s1⟩
 case round=>
  clear s1;obtain⟨k,hk,rfl,hf,s2⟩:=hrel;by_cases hlt:k<8
  ·obtain⟨k1,k2,k3⟩:=jsu k hlt;have c1:=s2.own.cellAt (k*3) (by omega);have c2:=s2.own.cellAt (k*3+1) (by omega);have c3:=s2.own.cellAt (k*3+2) (by omega);rw[k1]at c1;rw[k2]at c2;rw[k3]at c3;unfold strB at c1;have i1:(0:Int)<=(k:Int):=by omega
   have i2:(k:Int)<8:=by omega
   obtain⟨r,hr⟩:∃r,8-k=r+1:=⟨7-k,by omega⟩;have HH:=hid (λ(h1:cmdW k=l0) (h2:cmdN k=n)=>show findC l0 n 0 8=some k from hf.trans (by rw[hr];exact jpo (k:=k) h1 h2));have HM:=hid (λ(h:¬(cmdW k=l0/\cmdN k=n))=>show findC l0 n 0 8=findC l0 n (k+1) (8-(k+1))from hf.trans (by rw[hr,jn1 (k:=k) h,show 8-(k+1)=r by omega]));have s3:=s2.alloc (.cells #[.string ⟨(cmdW k).toArray⟩,.int .i64 (cmdN k),.func (.func (cmdF k)) #[] #[]] 66);have x0:=CX.out _ s3.below;unfold strB at x0;obtain⟨d3,_⟩:=s3.cells;clear k1 k2 k3 hf hr;have ew:IntKind.i64.wrap ((n:Int)+1-1)=(n:Int):=by rw[IntKind.wrap_i64];omega
   have L0:=hid (rfl:cmdW k=cmdW k);generalize hwk:cmdW k=wk at *;generalize hnk:cmdN k=nk at *;generalize hfk:cmdF k=fk at *;have HF:=hid (show CmdEnds l0 n (.returned (.agg #[strB wk,.int .i64 nk,.func (.func fk) #[] #[]]))\/¬(wk=l0/\nk=n)from by
    by_cases hh:wk=l0/\nk=n
    ·refine .inl ?_;rw[<- hwk,<- hnk,<- hfk];exact jj1 (HH.out hh.1 hh.2)
    ·exact .inr hh)
   have HM2:=hid (λ(h:¬(wk=l0/\nk=n))=>HM.out h);clear hwk hnk hfk HH HM L0;have sf:=λ(w:World) (ad:Addr) (m:Mode)=>run_store tnp w ad (Value.func (.func fk) #[] #[]) m rfl;generalize hW:wr.alloc (.cells #[.string ⟨wk.toArray⟩,.int .i64 nk,.func (.func fk) #[] #[]] 66 (0,0))=w4 at *;have HWH:=hid hW;have d0:=(d3 0).trans (show _=some (Value.string ⟨wk.toArray⟩)from rfl);have d1:=(d3 1).trans (show _=some (Value.int .i64 nk)from rfl);have g0:=jf d0;have g1:=jf d1;have g2:=jf x0;have HG:=hid (λx:Grown w4=>s3.call (j1b x));clear hW d0 d1 d3;by_cases h1:wk=l0
   ·have q1:(wk==l0)=true:=by simpa using h1
    by_cases h2:nk=n
    ·have F:=hid (HF.out.resolve_right (λh=>h ⟨h1,h2⟩));have q2:((nk:Int)==(n:Int))=true:=by simp[h2]
     clear h1 h2 HF HM2 s2 s3 x0;have hW:=HWH.out;go_wp2_with fail
     clear hW;refine jm (by kernel_rfl) (by kernel_rfl) ?_;repeat (go_big_quiet_step ((fail)))
     refine wpQuiet_nil ?_;rintro _ ⟨x,rfl⟩;have s4:=HG.out x;generalize grow w4 x=w5 at *;obtain⟨c4,_⟩:=s4.cells;obtain⟨r4,f4⟩:=s4.at2.cells;have s5:=((s4.at2.set 0 (strB wk)).set 1 (.int .i64 nk)).set 2 (.func (.func fk) #[] #[]);have q5:=s5.cells.1;have FB:=hid s5.below;have F2:=hid F.out;unfold strB at q5 F2 FB;clear g0 g1 g2 HG s4 s5;go_wp2_with fail
     exact bodyPost_ret (v:=.agg #[.string ⟨wk.toArray⟩,.int .i64 nk,.func (.func fk) #[] #[]]) (by simp[results,Tryz.results36,go_sem,q5]) rfl ⟨F2.out,FB.out⟩
    ·have F:=hid (HM2.out (λh=>h2 h.2));have q2:((nk:Int)==(n:Int))=false:=by simp;omega
     clear h1 h2 HF HM2 s2 s3 x0;have hW:=HWH.out;go_wp2_with fail
     clear hW;refine jm (by kernel_rfl) (by kernel_rfl) ?_;repeat (go_big_quiet_step ((fail)))
     refine wpQuiet_nil ?_;rintro _ ⟨x,rfl⟩;have s4:=HG.out x;generalize grow w4 x=w5 at *;have FIN:=hid s4.drop;clear g0 g1 g2 HG s4 sf;go_wp2_with fail
     go_roundw
     case rel=>exact⟨k+1,hlt,by go_num,F.out,FIN.out⟩
     case measure=>simp[intOf];omega
   ·have q1:(wk==l0)=false:=by simpa using h1
    have F:=hid (HM2.out (λh=>h1 h.1));clear h1 HF HM2 s2 s3 x0;have hW:=HWH.out;go_wp2_with fail
    clear hW;refine jm (by kernel_rfl) (by kernel_rfl) ?_;repeat (go_big_quiet_step ((fail)))
    refine wpQuiet_nil ?_;rintro _ ⟨x,rfl⟩;have s4:=HG.out x;generalize grow w4 x=w5 at *;have FIN:=hid s4.drop;clear g0 g1 g2 HG s4 sf;go_wp2_with fail
    go_roundw
    case rel=>exact⟨k+1,hlt,by go_num,F.out,FIN.out⟩
    case measure=>simp[intOf];omega
  ·obtain rfl:k=8:=by omega
   have F:=hid (jgk (l0:=l0) (n:=n) hf);have FB:=hid s2.below;clear s2 hf;go_wp2_with fail
   refine⟨rfl,?_⟩;exact⟨F.out,FB.out⟩
theorem jm0 (p:Addr)(w:World) :
  CallsD tnp 35 #[.pointer (some p)] .returning w λe u' w'=>e=.returned (.tuple #[])/\u'=.returning/\w'=w:=by
 refine callsD_of_wpS Twn.func35 rfl λcq cs hu=>?_;apply wpS_seq;apply wpS_region;simp[wpOpsS,go_sem,recoverD,hu,Tryz.ntmps35,Exit.thenS];refine wpS_of_wp ?_;go_wp2_with fail
 cases cq;simp only at hu;subst hu;exact⟨rfl,.returning,rfl,.tuple #[],by simp[results,Tryz.results35],rfl,rfl,rfl⟩
theorem jly (S:ByteArray)(w:World):(Instr.typeAssert (.iface 63 (.agg #[.string S])) 20 63 true).run tnp w=.ok (.tuple #[.agg #[.string S],.bool true]) w:=by kernel_rfl
theorem jg7 (b:Nat)(x:Value)(l:List UInt8)(older:List PanicEntry)(rs:List Res)(w0 w:World)(s:St w0 w (box b #[x] 9::rs)) :
  CallsD tnp 35 #[.pointer (some ⟨b,0,none⟩)] (.panicking ({ v:=badV l,recovered:=false }::older)) w λe u' w'=>e=.returned (.tuple #[])/\u'=.panicking ({ v:=badV l,recovered:=true }::older)/\St w0 w' (box b #[strB l] 9::rs):=by
 have lB:=s.lt.2;obtain⟨c1,f1⟩:=s.cells;have FIN:=hid (((s.set 0 (.string ⟨l.toArray⟩)).alloc (.cells #[.string ⟨l.toArray⟩] 63)).drop);unfold badV;have ta:=jly ⟨l.toArray⟩;clear s;refine callsD_of_wpS Twn.func35 rfl λcq cs hu=>?_;apply wpS_seq;apply wpS_region;simp[wpOpsS,go_sem,recoverD,hu,Tryz.ntmps35,Exit.thenS];refine wpS_of_wp ?_;go_wp2_with fail
 exact⟨rfl,_,rfl,.tuple #[],by simp[results,Tryz.results35],rfl,rfl,FIN.out⟩
end Go.Proofs.T
