
/-
  The walk of FnViewDrop.
-/
import Derived.Test.YtgpnbcdboofikaaC11
import Derived.Test.YtgpnbcdboofikaaC5
import Derived.Test.YtgpnbcdboofikaaS1
import Derived.Test.YtgpnbcdboofikaaC15
import Derived.Test.YtgpnbcdboofikaaC19
import Derived.Test.YtgpnbcdboofikaaMf
import Derived.Test.YtgpnbcdboofikaaV4
import Derived.Test.YtgpnbcdboofikaaPN
namespace Go.Proofs.Ytgpnbcdboofikaa.fnViewDrop
open Go.RowKit Go.Proofs.Ytgpnbcdboofikaa

set_option maxRecDepth 100000 in
set_option maxHeartbeats 4000000 in
theorem walk (a0 : Option Addr) (len0 cap0 : Nat) (z0 : List Int) (w : World) (w0 : IsRow .u8 w a0 len0 cap0 z0) :
    Calls Try.prog 11 #[.slice a0 len0 cap0] w fun e w' => e = .returned (.bool true) ∧ Below w.heap.size w w' := by
  have hle := w0.le
  have hby := w0.bytes
  clear w0
  by_cases hbig : len0 ≤ 1048576
  · go_enter Try.func11, Try.ntmps11
    go_wp2_with fail
    refine (drawViewOf_calls _ _ _ _ hle.1 hle.2 hby).mono ?_
    rintro e w1 ⟨view, a, cap, ns, rfl, ⟨hn1, hn5, hcap, hsh⟩, hx, hb1⟩
    have hm : ns.length ≤ 1099511627776 := by omega
    have hsm : Short ns 1099511627776 := fun n hn => Nat.le_trans (hsh n hn) (by omega)
    have HB := Lib.hid (fun W R (k : St w1 W R) => hb1.trans (k.below.mono hb1.size))
    have s1 := (St.start w1).alloc (.cells #[.int .i64 view, .slice a ns.length cap] 25)
    have IM := Lib.hid (fun W (h : NodesAt W a ns) => viewOf_calls view a cap ns W hm hsm h)
    have SP := Lib.hid (fun W (h : NodesAt W a ns) => specViewOf_calls view a cap ns W hm hcap hsm h)
    unfold GaveView at IM SP
    have CD := Lib.hid (fun x W (h : NodesAt W a ns) => chainDrop_calls view a cap ns x W hm hsm h)
    have OK := Lib.hid (fun h => vof_ok (view := view) (ns := ns) h)
    have hil : (vofIds view ns).length ≤ 1099511627776 := by have := vof_len (view := view) (ns := ns); omega
    generalize vofNum view ns = num at *
    generalize vofIds view ns = ids at *
    clear hby hb1 hsm hsh
    go_wp2_with fail
    refine (IM.out _ (hx.below s1.below)).mono ?_
    rintro e w2 ⟨a2, cap2, rfl, ss⟩
    have s2 := s1.join ss
    simp only [List.cons_append, List.nil_append] at s2
    have s3 := s2.alloc (.cells #[.int .i64 num, .slice a2 ids.length cap2] 36)
    obtain ⟨c2, _⟩ := s2.drop.cells
    have l2 := s2.drop.lt.2
    clear s1 s2 ss
    go_wp2_with fail
    refine (SP.out _ (hx.below s3.below)).mono ?_
    rintro e w4 ⟨a5, cap5, rfl, ss⟩
    have s4 := s3.join ss
    simp only [List.cons_append, List.nil_append] at s4
    have s5 := s4.alloc (.cells #[.int .i64 num, .slice a5 ids.length cap5] 36)
    clear s3 ss c2 l2 IM SP
    obtain ⟨c4, _⟩ := s4.drop.cells
    obtain ⟨x4, _⟩ := s4.drop.drop.drop.cells
    have l4 := s4.drop.lt.2
    have l4x := s4.drop.drop.drop.lt.2
    cases hv : chainOk view ns with
    | false =>
      clear hv OK
      go_wp2_with fail
      refine (sameView_eq _ _ _ _ _ _ _ hil (own_intsR s5.drop.drop.drop.own) (own_intsR s5.drop.own)).mono ?_
      rintro e w6 ⟨rfl, hb6⟩
      have s6 := s5.call hb6
      obtain ⟨d6, _⟩ := s6.cells
      obtain ⟨c6, _⟩ := s6.drop.drop.cells
      clear s4 s5 c4 x4 l4 l4x hb6
      go_wp2_with fail
      refine (sameView_eq _ _ _ _ _ _ _ hil (own_intsR s6.drop.drop.drop.own) (own_intsR s6.drop.own)).mono ?_
      rintro e w7 ⟨rfl, hb7⟩
      have s7 := s6.call hb7
      go_wp2_with fail
      go_ret
      exact ⟨rfl, HB.out _ _ s7⟩
    | true =>
      obtain ⟨hnum, hids, hvw⟩ := OK.out hv
      have HI := Lib.hid hids
      have hil2 : ids.length = ns.length := by rw [hids]; simp
      have hil3 : 0 < ids.length := by omega
      obtain ⟨x, hx0⟩ : ∃ x, (nd ns 0).id = x := ⟨_, rfl⟩
      have HX : ids.getD 0 0 = x := by rw [hids, map_getD (by omega), hx0]
      have DN := Lib.hid (fun (ms : List Nd) (h1 : dropOk view ns x = true) (h2 : keys ms = dropKeys view ns x) =>
        show chainOk (view + 1) ms = true ∧ vofNum (view + 1) ms = view + 1 ∧ vofIds (view + 1) ms = nextIds num ids [x] [] ∧ nextOk num ids [x] [] = true ∧ nextNum num ids [x] [] = view + 1 ∧ dropNum view ns x = view + 1 from by
          rw [hnum, hids]; subst hx0; exact drop_next hv h1 h2)
      have hlen : (nextIds num ids [x] []).length ≤ 1099511627776 := by have := nextLen num ids [x] []; simp at this; omega
      have HLEN := Lib.hid hlen
      have HIL := Lib.hid hil
      have HXH := Lib.hid HX
      have IP := Lib.hid hil3
      clear hv OK hnum hids hvw hil2 HI hx0 hlen HX
      go_wp2_with fail
      refine (sameView_eq _ _ _ _ _ _ _ HIL.out (own_intsR s5.drop.drop.drop.own) (own_intsR s5.drop.own)).mono ?_
      rintro e w6 ⟨rfl, hb6⟩
      have s6 := s5.call hb6
      clear s4 s5 c4 x4 l4 l4x hb6
      obtain ⟨b2, off2, rfl⟩ : ∃ b2 off2, a2 = some ⟨b2, off2, none⟩ := by
        rcases own_intsR s6.drop.drop.drop.own with h | ⟨b, off, h, _⟩
        · rw [h] at hil3; simp at hil3
        · exact ⟨b, off, h⟩
      have HXP := Lib.hid (fun W R (s : St w1 W R) => hx.below s.below)
      have CD2 := Lib.hid (fun W R (s : St w1 W R) => CD.out x W (HXP.out _ _ s))
      generalize dropOk view ns x = ok at *
      generalize dropNum view ns x = dnum at *
      generalize dropKeys view ns x = ks at *
      clear CD
      go_wp2_with fail
      generalize w4.heap.size = VW at *
      generalize w2.heap.size = VV at *
      generalize w1.heap.size = V at *
      obtain ⟨S, hS⟩ := Mix.named (fun w' => w'.cell? ⟨V, 0, none⟩ = some (.int .i64 view) ∧ w'.cell? ⟨V, 1, none⟩ = some (.slice a ns.length cap) ∧ w'.cell? ⟨VV, 1, none⟩ = some (.slice (some ⟨b2, off2, none⟩) ids.length cap2) ∧ w'.cell? ⟨b2, off2, none⟩ = some (.int .i64 x))
      have HS := Lib.hid hS
      have e0 := Mix.held_cell (fun w h => ((hS w).1 h).1)
      have e1 := Mix.held_cell (fun w h => ((hS w).1 h).2.1)
      have e2 := Mix.held_cell (fun w h => ((hS w).1 h).2.2.1)
      have e3 := Mix.held_cell (fun w h => ((hS w).1 h).2.2.2)
      clear hS
      have SO := Lib.hid (fun W rr (h1 : box V #[.int .i64 view, .slice a ns.length cap] 25 ∈ rr) (h2 : box VV #[.int .i64 num, .slice (some ⟨b2, off2, none⟩) ids.length cap2] 36 ∈ rr) (h3 : row (.slice (some ⟨b2, off2, none⟩) ids.length cap2) 3 1 ids.length (ids.map (Value.int .i64)) ∈ rr) (s : St w1 W rr) => (HS.out W).2 ⟨s.boxIn h1 0 rfl, s.boxIn h1 1 rfl, s.boxIn h2 1 rfl, (s.intsIn h3 rfl).first IP.out HXH.out⟩)
      have s7 := s6.drew
      clear s6
      have i0 : (0 : Int) < (ids.length : Int) := by omega
      refine Mix.start S 99 (by kernel_rfl) ?_
      generalize w6.drew = w7 at *
      refine Mix.take [0, 1, 2, 3, 4] 7 (by kernel_rfl) (by kernel_rfl) (by kernel_rfl) (by intro c a a' w e h; exact ⟨e.symm.trans h.1, h.2⟩) (SO.out _ _ (by simp) (by simp) (by simp) s7) ?_
      intro hne
      simp only [Mix.pickOps, List.filterMap_cons, List.filterMap_nil, List.getElem?_toArray, List.getElem?_cons_zero, List.getElem?_cons_succ]
      repeat (refine Mix.cons_form ?_; go_big_quiet_step (fail))
      refine wpQuiet_nil ?_
      clear hne
      refine Mix.fork (i := 5) (j := 9) (by kernel_rfl) rfl rfl rfl rfl ?_ ?_
      focus
        go_simp
        refine (CD2.out _ _ s7).mono ?_
        rintro e w8 ⟨a6, cap6, ms, rfl, hk, k8⟩
        have s8 := s7.join k8
        refine And.intro (SO.out _ _ (by simp) (by simp) (by simp) s8) ?_
        go_simp
        refine Mix.take [6, 7, 8] 3 (by kernel_rfl) (by kernel_rfl) (by kernel_rfl) (by intro c a a' w e h; exact ⟨e.symm.trans h.1, h.2⟩) (SO.out _ _ (by simp) (by simp) (by simp) s8) ?_
        intro hne
        simp only [Mix.pickOps, List.filterMap_cons, List.filterMap_nil, List.getElem?_toArray, List.getElem?_cons_zero, List.getElem?_cons_succ]
        repeat (refine Mix.cons_form ?_; go_big_quiet_step (fail))
        refine wpQuiet_nil ?_
        clear hne
        refine Mix.step (i := 9) (by kernel_rfl) rfl rfl ?_
        have s9 := s8.alloc (.cells #[.int .i64 0, .slice none 0 0] 25)
        go_simp
        refine And.intro (SO.out _ _ (by simp) (by simp) (by simp) s9) ?_
        go_simp
        generalize w8.alloc (.cells #[.int .i64 0, .slice none 0 0] 25 (0, 0)) = w9 at *
        generalize w8.heap.size = X at *
        clear s8 k8
      rotate_left
      focus
        have s8 := s7.alloc (.cells #[.int .i64 0, .slice none 0 0] 25)
        go_simp
        refine And.intro (SO.out _ _ (by simp) (by simp) (by simp) s8) ?_
        go_simp
        generalize w7.alloc (.cells #[.int .i64 0, .slice none 0 0] 25 (0, 0)) = w8 at *
        refine Mix.step (i := 5) (by kernel_rfl) rfl rfl ?_
        go_simp
        refine (CD2.out _ _ s8).mono ?_
        rintro e w9 ⟨a6, cap6, ms, rfl, hk, k9⟩
        have s10 := s8.join k9
        refine And.intro (SO.out _ _ (by simp) (by simp) (by simp) s10) ?_
        go_simp
        refine Mix.take [6, 7, 8] 2 (by kernel_rfl) (by kernel_rfl) (by kernel_rfl) (by intro c a a' w e h; exact ⟨e.symm.trans h.1, h.2⟩) (SO.out _ _ (by simp) (by simp) (by simp) s10) ?_
        intro hne
        simp only [Mix.pickOps, List.filterMap_cons, List.filterMap_nil, List.getElem?_toArray, List.getElem?_cons_zero, List.getElem?_cons_succ]
        repeat (refine Mix.cons_form ?_; go_big_quiet_step (fail))
        refine wpQuiet_nil ?_
        clear hne
        generalize w7.heap.size = X at *
        have s9 : St w1 w9 (box X #[.int .i64 0, .slice none 0 0] 25 :: row (.slice a6 ms.length cap6) 32 3 ms.length (ncells ms) :: (nds ms ++ (box VW #[.int .i64 num, .slice a5 ids.length cap5] 36 :: row (.slice a5 ids.length cap5) 3 1 ids.length (ids.map (Value.int .i64)) :: box VV #[.int .i64 num, .slice (some ⟨b2, off2, none⟩) ids.length cap2] 36 :: row (.slice (some ⟨b2, off2, none⟩) ids.length cap2) 3 1 ids.length (ids.map (Value.int .i64)) :: box V #[.int .i64 view, .slice a ns.length cap] 25 :: []))) := s10.perm (List.perm_middle (l₁ := row (.slice a6 ms.length cap6) 32 3 ms.length (ncells ms) :: nds ms))
        clear s8 s10 k9
      all_goals
        refine Mix.step (i := 10) (by kernel_rfl) rfl rfl ?_
        obtain ⟨c9, f9⟩ := s9.cells
        have s10 := (s9.set 0 (.int .i64 dnum)).set 1 (.slice a6 ms.length cap6)
        have q10 := s10.cells.1
        go_simp
        refine And.intro (SO.out _ _ (by simp) (by simp) (by simp) s10) ?_
        refine Mix.take [11] 0 (by kernel_rfl) (by kernel_rfl) (by kernel_rfl) (by intro c a a' w e h; exact ⟨e.symm.trans h.1, h.2⟩) (SO.out _ _ (by simp) (by simp) (by simp) s10) ?_
        intro hne
        simp only [Mix.pickOps, List.filterMap_cons, List.filterMap_nil, List.getElem?_toArray, List.getElem?_cons_zero, List.getElem?_cons_succ]
        repeat (refine Mix.cons_form ?_; go_big_quiet_step (fail))
        refine wpQuiet_nil ?_
        clear hne
        refine Mix.done (by kernel_rfl) ?_
        have q0 := q10 0
        have q1 := q10 1
        simp at q0 q1
        have FIN := Lib.hid (HB.out _ _ s10)
        have hn10 := nodes_of s10.drop (by intro r hr; simp [hr])
        generalize (w9.setCell ⟨X, 0, none⟩ (.int .i64 dnum)).setCell ⟨X, 1, none⟩ (.slice a6 ms.length cap6) = w10 at *
        clear s7 s9 c9 f9 q10
        cases ok with
        | false =>
          go_wp2_with fail
          go_ret
          exact ⟨ret_bool (by first | rfl | simp), FIN.out⟩
        | true =>
          obtain ⟨D1, D2, D3, D4, D5, D6⟩ := DN.out ms rfl hk
          obtain ⟨ml, msh⟩ := chain_short D1
          have VO := Lib.hid (fun W (h : NodesAt W a6 ms) => viewOf_calls (view + 1) a6 cap6 ms W (by omega) (fun n hn => Nat.le_trans (msh n hn) (by omega)) h)
          unfold GaveView at VO
          rw [D1, D2, D3] at VO
          have VN := Lib.hid (fun W a1 cap1 a2 cap2' h1 h2 h3 => viewNext_calls (some ⟨b2, off2, none⟩) a1 a2 cap2 cap1 cap2' num ids [x] [] W HIL.out (by simp) (by simp) h1 h2 h3)
          unfold Nexted at VN
          rw [D4, D5] at VN
          generalize nextIds num ids [x] [] = ids2 at *
          clear D1 D2 D3 D4 D5 DN msh ml
          subst D6
          go_wp2_with fail
          refine (VO.out _ hn10).mono ?_
          rintro e w11 ⟨a8, cap8, rfl, ss⟩
          have s11 := s10.join ss
          simp only [List.cons_append, List.nil_append] at s11
          have s12 := s11.alloc (.cells #[.int .i64 (view + 1), .slice a8 ids2.length cap8] 36)
          clear s10 ss q0 q1 VO
          go_wp2_with fail
          generalize hw12 : w11.alloc (.cells #[.int .i64 (view + 1), .slice a8 ids2.length cap8] 36 (0, 0)) = w12 at *
          clear hw12
          generalize w11.heap.size = VY at *
          obtain ⟨S2, hS2⟩ := Mix.named (fun w' => w'.cell? ⟨VV, 0, none⟩ = some (.int .i64 num) ∧ w'.cell? ⟨VV, 1, none⟩ = some (.slice (some ⟨b2, off2, none⟩) ids.length cap2) ∧ w'.cell? ⟨b2, off2, none⟩ = some (.int .i64 x))
          have HS2 := Lib.hid hS2
          have g0 := Mix.held_cell (fun w h => ((hS2 w).1 h).1)
          have g1 := Mix.held_cell (fun w h => ((hS2 w).1 h).2.1)
          have g2 := Mix.held_cell (fun w h => ((hS2 w).1 h).2.2)
          clear hS2
          have SO2 := Lib.hid (fun W rr (h2 : box VV #[.int .i64 num, .slice (some ⟨b2, off2, none⟩) ids.length cap2] 36 ∈ rr) (h3 : row (.slice (some ⟨b2, off2, none⟩) ids.length cap2) 3 1 ids.length (ids.map (Value.int .i64)) ∈ rr) (s : St w1 W rr) => (HS2.out W).2 ⟨s.boxIn h2 0 rfl, s.boxIn h2 1 rfl, (s.intsIn h3 rfl).first IP.out HXH.out⟩)
          have t0 := s12.drew
          clear s12 e0 e1 e2 e3 SO HS
          refine Mix.start S2 99 (by kernel_rfl) ?_
          generalize w12.drew = u0 at *
          refine Mix.take [0, 1, 2, 3, 4] 9 (by kernel_rfl) (by kernel_rfl) (by kernel_rfl) (by intro c a a' w e h; exact ⟨e.symm.trans h.1, h.2⟩) (SO2.out _ _ (by simp) (by simp) t0) ?_
          intro hne
          simp only [Mix.pickOps, List.filterMap_cons, List.filterMap_nil, List.getElem?_toArray, List.getElem?_cons_zero, List.getElem?_cons_succ]
          repeat (refine Mix.cons_form ?_; go_big_quiet_step (fail))
          refine wpQuiet_nil ?_
          clear hne
          refine Mix.fork3 (i := 5) (j := 6) (k := 11) (by kernel_rfl) rfl rfl rfl rfl rfl rfl ?_ ?_ ?_
          · have t1 := t0.alloc (.cells #[.int .i64 x] 3)
            go_simp
            refine And.intro (SO2.out _ _ (by simp) (by simp) t1) ?_
            go_simp
            generalize u0.alloc (.cells #[.int .i64 x] 3 (0, 0)) = u1 at *
            generalize u0.heap.size = B5 at *
            refine Mix.fork (i := 6) (j := 11) (by kernel_rfl) rfl rfl rfl rfl ?_ ?_
            · have t2 := t1.alloc (.cells #[] 3)
              go_simp
              refine And.intro (SO2.out _ _ (by simp) (by simp) t2) ?_
              go_simp
              generalize u1.alloc (.cells #[] 3 (0, 0)) = u2 at *
              generalize u1.heap.size = B6 at *
              refine Mix.fork (i := 7) (j := 11) (by kernel_rfl) rfl rfl rfl rfl ?_ ?_
              · go_simp
                refine (VN.out _ _ _ _ _ (t2.intsIn (cap := cap2) (by simp) rfl) (t2.oneInt (b := B5) (t := 3) (by simp)) (.inl rfl)).mono ?_
                rintro e u3 ⟨a9, cap9, rfl, ho9, hb9⟩
                have t3 := t2.fresh hb9 ho9 (Nat.le_refl _)
                refine And.intro (SO2.out _ _ (by simp) (by simp) t3) ?_
                go_simp
                refine Mix.take [8, 9, 10] 3 (by kernel_rfl) (by kernel_rfl) (by kernel_rfl) (by intro c a a' w e h; exact ⟨e.symm.trans h.1, h.2⟩) (SO2.out _ _ (by simp) (by simp) t3) ?_
                intro hne
                simp only [Mix.pickOps, List.filterMap_cons, List.filterMap_nil, List.getElem?_toArray, List.getElem?_cons_zero, List.getElem?_cons_succ]
                repeat (refine Mix.cons_form ?_; go_big_quiet_step (fail))
                refine wpQuiet_nil ?_
                clear hne
                refine Mix.step (i := 11) (by kernel_rfl) rfl rfl ?_
                have t4 := t3.alloc (.cells #[.int .i64 0, .slice none 0 0] 36)
                go_simp
                refine And.intro (SO2.out _ _ (by simp) (by simp) t4) ?_
                go_simp
                generalize u3.alloc (.cells #[.int .i64 0, .slice none 0 0] 36 (0, 0)) = u4 at *
                generalize u3.heap.size = Z at *
                have tF := t4
                refine Mix.step (i := 12) (by kernel_rfl) rfl rfl ?_
                obtain ⟨cF, fF⟩ := tF.cells
                have tG := (tF.set 0 (.int .i64 (view + 1))).set 1 (.slice a9 ids2.length cap9)
                go_simp
                refine And.intro (SO2.out _ _ (by simp) (by simp) tG) ?_
                refine Mix.take [13] 0 (by kernel_rfl) (by kernel_rfl) (by kernel_rfl) (by intro c a a' w e h; exact ⟨e.symm.trans h.1, h.2⟩) (SO2.out _ _ (by simp) (by simp) tG) ?_
                intro hne
                simp only [Mix.pickOps, List.filterMap_cons, List.filterMap_nil, List.getElem?_toArray, List.getElem?_cons_zero, List.getElem?_cons_succ]
                repeat (refine Mix.cons_form ?_; go_big_quiet_step (fail))
                refine wpQuiet_nil ?_
                clear hne
                refine Mix.done (by kernel_rfl) ?_
                have z0 := tG.cells.1 0
                have z1 := tG.cells.1 1
                simp at z0 z1
                have y0 := tG.boxIn (V := VY) (cs := #[.int .i64 (view + 1), .slice a8 ids2.length cap8]) (t := 36) (by simp) 0 rfl
                have y1 := tG.boxIn (V := VY) (cs := #[.int .i64 (view + 1), .slice a8 ids2.length cap8]) (t := 36) (by simp) 1 rfl
                have I8 := tG.intsIn (a := a8) (n := ids2.length) (cap := cap8) (xs := ids2) (by simp) rfl
                have I9 := tG.intsIn (a := a9) (n := ids2.length) (cap := cap9) (xs := ids2) (by simp) rfl
                have HF := Lib.hid (fun W hb => HB.out W _ (tG.call hb))
                generalize (u4.setCell ⟨Z, 0, none⟩ (.int .i64 (view + 1))).setCell ⟨Z, 1, none⟩ (.slice a9 ids2.length cap9) = uF at *
                clear tF tG cF fF t0 t1 t2 t3 t4
                go_wp2_with fail
                refine (sameView_eq _ _ _ _ _ _ _ HLEN.out I8 I9).mono ?_
                rintro e w' ⟨rfl, hb⟩
                have HFF := Lib.hid (HF.out _ hb)
                clear hb z0 z1 y0 y1
                go_wp2_with fail
                go_ret
                exact ⟨ret_bool (by first | rfl | simp), HFF.out⟩
              · have t3 := t2.alloc (.cells #[.int .i64 0, .slice none 0 0] 36)
                go_simp
                refine And.intro (SO2.out _ _ (by simp) (by simp) t3) ?_
                go_simp
                generalize u2.alloc (.cells #[.int .i64 0, .slice none 0 0] 36 (0, 0)) = u3 at *
                generalize u2.heap.size = Z at *
                refine Mix.step (i := 7) (by kernel_rfl) rfl rfl ?_
                go_simp
                refine (VN.out _ _ _ _ _ (t3.intsIn (cap := cap2) (by simp) rfl) (t3.oneInt (b := B5) (t := 3) (by simp)) (.inl rfl)).mono ?_
                rintro e u4 ⟨a9, cap9, rfl, ho9, hb9⟩
                have t4 := t3.fresh hb9 ho9 (Nat.le_refl _)
                refine And.intro (SO2.out _ _ (by simp) (by simp) t4) ?_
                go_simp
                refine Mix.take [8, 9, 10] 2 (by kernel_rfl) (by kernel_rfl) (by kernel_rfl) (by intro c a a' w e h; exact ⟨e.symm.trans h.1, h.2⟩) (SO2.out _ _ (by simp) (by simp) t4) ?_
                intro hne
                simp only [Mix.pickOps, List.filterMap_cons, List.filterMap_nil, List.getElem?_toArray, List.getElem?_cons_zero, List.getElem?_cons_succ]
                repeat (refine Mix.cons_form ?_; go_big_quiet_step (fail))
                refine wpQuiet_nil ?_
                clear hne
                have tF := t4.at1
                refine Mix.step (i := 12) (by kernel_rfl) rfl rfl ?_
                obtain ⟨cF, fF⟩ := tF.cells
                have tG := (tF.set 0 (.int .i64 (view + 1))).set 1 (.slice a9 ids2.length cap9)
                go_simp
                refine And.intro (SO2.out _ _ (by simp) (by simp) tG) ?_
                refine Mix.take [13] 0 (by kernel_rfl) (by kernel_rfl) (by kernel_rfl) (by intro c a a' w e h; exact ⟨e.symm.trans h.1, h.2⟩) (SO2.out _ _ (by simp) (by simp) tG) ?_
                intro hne
                simp only [Mix.pickOps, List.filterMap_cons, List.filterMap_nil, List.getElem?_toArray, List.getElem?_cons_zero, List.getElem?_cons_succ]
                repeat (refine Mix.cons_form ?_; go_big_quiet_step (fail))
                refine wpQuiet_nil ?_
                clear hne
                refine Mix.done (by kernel_rfl) ?_
                have z0 := tG.cells.1 0
                have z1 := tG.cells.1 1
                simp at z0 z1
                have y0 := tG.boxIn (V := VY) (cs := #[.int .i64 (view + 1), .slice a8 ids2.length cap8]) (t := 36) (by simp) 0 rfl
                have y1 := tG.boxIn (V := VY) (cs := #[.int .i64 (view + 1), .slice a8 ids2.length cap8]) (t := 36) (by simp) 1 rfl
                have I8 := tG.intsIn (a := a8) (n := ids2.length) (cap := cap8) (xs := ids2) (by simp) rfl
                have I9 := tG.intsIn (a := a9) (n := ids2.length) (cap := cap9) (xs := ids2) (by simp) rfl
                have HF := Lib.hid (fun W hb => HB.out W _ (tG.call hb))
                generalize (u4.setCell ⟨Z, 0, none⟩ (.int .i64 (view + 1))).setCell ⟨Z, 1, none⟩ (.slice a9 ids2.length cap9) = uF at *
                clear tF tG cF fF t0 t1 t2 t3 t4
                go_wp2_with fail
                refine (sameView_eq _ _ _ _ _ _ _ HLEN.out I8 I9).mono ?_
                rintro e w' ⟨rfl, hb⟩
                have HFF := Lib.hid (HF.out _ hb)
                clear hb z0 z1 y0 y1
                go_wp2_with fail
                go_ret
                exact ⟨ret_bool (by first | rfl | simp), HFF.out⟩
            · have t2 := t1.alloc (.cells #[.int .i64 0, .slice none 0 0] 36)
              go_simp
              refine And.intro (SO2.out _ _ (by simp) (by simp) t2) ?_
              go_simp
              generalize u1.alloc (.cells #[.int .i64 0, .slice none 0 0] 36 (0, 0)) = u2 at *
              generalize u1.heap.size = Z at *
              refine Mix.step (i := 6) (by kernel_rfl) rfl rfl ?_
              have t3 := t2.alloc (.cells #[] 3)
              go_simp
              refine And.intro (SO2.out _ _ (by simp) (by simp) t3) ?_
              go_simp
              generalize u2.alloc (.cells #[] 3 (0, 0)) = u3 at *
              generalize u2.heap.size = B6 at *
              refine Mix.step (i := 7) (by kernel_rfl) rfl rfl ?_
              go_simp
              refine (VN.out _ _ _ _ _ (t3.intsIn (cap := cap2) (by simp) rfl) (t3.oneInt (b := B5) (t := 3) (by simp)) (.inl rfl)).mono ?_
              rintro e u4 ⟨a9, cap9, rfl, ho9, hb9⟩
              have t4 := t3.fresh hb9 ho9 (Nat.le_refl _)
              refine And.intro (SO2.out _ _ (by simp) (by simp) t4) ?_
              go_simp
              refine Mix.take [8, 9, 10] 2 (by kernel_rfl) (by kernel_rfl) (by kernel_rfl) (by intro c a a' w e h; exact ⟨e.symm.trans h.1, h.2⟩) (SO2.out _ _ (by simp) (by simp) t4) ?_
              intro hne
              simp only [Mix.pickOps, List.filterMap_cons, List.filterMap_nil, List.getElem?_toArray, List.getElem?_cons_zero, List.getElem?_cons_succ]
              repeat (refine Mix.cons_form ?_; go_big_quiet_step (fail))
              refine wpQuiet_nil ?_
              clear hne
              have tF := t4.at2
              refine Mix.step (i := 12) (by kernel_rfl) rfl rfl ?_
              obtain ⟨cF, fF⟩ := tF.cells
              have tG := (tF.set 0 (.int .i64 (view + 1))).set 1 (.slice a9 ids2.length cap9)
              go_simp
              refine And.intro (SO2.out _ _ (by simp) (by simp) tG) ?_
              refine Mix.take [13] 0 (by kernel_rfl) (by kernel_rfl) (by kernel_rfl) (by intro c a a' w e h; exact ⟨e.symm.trans h.1, h.2⟩) (SO2.out _ _ (by simp) (by simp) tG) ?_
              intro hne
              simp only [Mix.pickOps, List.filterMap_cons, List.filterMap_nil, List.getElem?_toArray, List.getElem?_cons_zero, List.getElem?_cons_succ]
              repeat (refine Mix.cons_form ?_; go_big_quiet_step (fail))
              refine wpQuiet_nil ?_
              clear hne
              refine Mix.done (by kernel_rfl) ?_
              have z0 := tG.cells.1 0
              have z1 := tG.cells.1 1
              simp at z0 z1
              have y0 := tG.boxIn (V := VY) (cs := #[.int .i64 (view + 1), .slice a8 ids2.length cap8]) (t := 36) (by simp) 0 rfl
              have y1 := tG.boxIn (V := VY) (cs := #[.int .i64 (view + 1), .slice a8 ids2.length cap8]) (t := 36) (by simp) 1 rfl
              have I8 := tG.intsIn (a := a8) (n := ids2.length) (cap := cap8) (xs := ids2) (by simp) rfl
              have I9 := tG.intsIn (a := a9) (n := ids2.length) (cap := cap9) (xs := ids2) (by simp) rfl
              have HF := Lib.hid (fun W hb => HB.out W _ (tG.call hb))
              generalize (u4.setCell ⟨Z, 0, none⟩ (.int .i64 (view + 1))).setCell ⟨Z, 1, none⟩ (.slice a9 ids2.length cap9) = uF at *
              clear tF tG cF fF t0 t1 t2 t3 t4
              go_wp2_with fail
              refine (sameView_eq _ _ _ _ _ _ _ HLEN.out I8 I9).mono ?_
              rintro e w' ⟨rfl, hb⟩
              have HFF := Lib.hid (HF.out _ hb)
              clear hb z0 z1 y0 y1
              go_wp2_with fail
              go_ret
              exact ⟨ret_bool (by first | rfl | simp), HFF.out⟩
          · have t1 := t0.alloc (.cells #[] 3)
            go_simp
            refine And.intro (SO2.out _ _ (by simp) (by simp) t1) ?_
            go_simp
            generalize u0.alloc (.cells #[] 3 (0, 0)) = u1 at *
            generalize u0.heap.size = B6 at *
            refine Mix.fork (i := 5) (j := 11) (by kernel_rfl) rfl rfl rfl rfl ?_ ?_
            · have t2 := t1.alloc (.cells #[.int .i64 x] 3)
              go_simp
              refine And.intro (SO2.out _ _ (by simp) (by simp) t2) ?_
              go_simp
              generalize u1.alloc (.cells #[.int .i64 x] 3 (0, 0)) = u2 at *
              generalize u1.heap.size = B5 at *
              refine Mix.fork (i := 7) (j := 11) (by kernel_rfl) rfl rfl rfl rfl ?_ ?_
              · go_simp
                refine (VN.out _ _ _ _ _ (t2.intsIn (cap := cap2) (by simp) rfl) (t2.oneInt (b := B5) (t := 3) (by simp)) (.inl rfl)).mono ?_
                rintro e u3 ⟨a9, cap9, rfl, ho9, hb9⟩
                have t3 := t2.fresh hb9 ho9 (Nat.le_refl _)
                refine And.intro (SO2.out _ _ (by simp) (by simp) t3) ?_
                go_simp
                refine Mix.take [8, 9, 10] 3 (by kernel_rfl) (by kernel_rfl) (by kernel_rfl) (by intro c a a' w e h; exact ⟨e.symm.trans h.1, h.2⟩) (SO2.out _ _ (by simp) (by simp) t3) ?_
                intro hne
                simp only [Mix.pickOps, List.filterMap_cons, List.filterMap_nil, List.getElem?_toArray, List.getElem?_cons_zero, List.getElem?_cons_succ]
                repeat (refine Mix.cons_form ?_; go_big_quiet_step (fail))
                refine wpQuiet_nil ?_
                clear hne
                refine Mix.step (i := 11) (by kernel_rfl) rfl rfl ?_
                have t4 := t3.alloc (.cells #[.int .i64 0, .slice none 0 0] 36)
                go_simp
                refine And.intro (SO2.out _ _ (by simp) (by simp) t4) ?_
                go_simp
                generalize u3.alloc (.cells #[.int .i64 0, .slice none 0 0] 36 (0, 0)) = u4 at *
                generalize u3.heap.size = Z at *
                have tF := t4
                refine Mix.step (i := 12) (by kernel_rfl) rfl rfl ?_
                obtain ⟨cF, fF⟩ := tF.cells
                have tG := (tF.set 0 (.int .i64 (view + 1))).set 1 (.slice a9 ids2.length cap9)
                go_simp
                refine And.intro (SO2.out _ _ (by simp) (by simp) tG) ?_
                refine Mix.take [13] 0 (by kernel_rfl) (by kernel_rfl) (by kernel_rfl) (by intro c a a' w e h; exact ⟨e.symm.trans h.1, h.2⟩) (SO2.out _ _ (by simp) (by simp) tG) ?_
                intro hne
                simp only [Mix.pickOps, List.filterMap_cons, List.filterMap_nil, List.getElem?_toArray, List.getElem?_cons_zero, List.getElem?_cons_succ]
                repeat (refine Mix.cons_form ?_; go_big_quiet_step (fail))
                refine wpQuiet_nil ?_
                clear hne
                refine Mix.done (by kernel_rfl) ?_
                have z0 := tG.cells.1 0
                have z1 := tG.cells.1 1
                simp at z0 z1
                have y0 := tG.boxIn (V := VY) (cs := #[.int .i64 (view + 1), .slice a8 ids2.length cap8]) (t := 36) (by simp) 0 rfl
                have y1 := tG.boxIn (V := VY) (cs := #[.int .i64 (view + 1), .slice a8 ids2.length cap8]) (t := 36) (by simp) 1 rfl
                have I8 := tG.intsIn (a := a8) (n := ids2.length) (cap := cap8) (xs := ids2) (by simp) rfl
                have I9 := tG.intsIn (a := a9) (n := ids2.length) (cap := cap9) (xs := ids2) (by simp) rfl
                have HF := Lib.hid (fun W hb => HB.out W _ (tG.call hb))
                generalize (u4.setCell ⟨Z, 0, none⟩ (.int .i64 (view + 1))).setCell ⟨Z, 1, none⟩ (.slice a9 ids2.length cap9) = uF at *
                clear tF tG cF fF t0 t1 t2 t3 t4
                go_wp2_with fail
                refine (sameView_eq _ _ _ _ _ _ _ HLEN.out I8 I9).mono ?_
                rintro e w' ⟨rfl, hb⟩
                have HFF := Lib.hid (HF.out _ hb)
                clear hb z0 z1 y0 y1
                go_wp2_with fail
                go_ret
                exact ⟨ret_bool (by first | rfl | simp), HFF.out⟩
              · have t3 := t2.alloc (.cells #[.int .i64 0, .slice none 0 0] 36)
                go_simp
                refine And.intro (SO2.out _ _ (by simp) (by simp) t3) ?_
                go_simp
                generalize u2.alloc (.cells #[.int .i64 0, .slice none 0 0] 36 (0, 0)) = u3 at *
                generalize u2.heap.size = Z at *
                refine Mix.step (i := 7) (by kernel_rfl) rfl rfl ?_
                go_simp
                refine (VN.out _ _ _ _ _ (t3.intsIn (cap := cap2) (by simp) rfl) (t3.oneInt (b := B5) (t := 3) (by simp)) (.inl rfl)).mono ?_
                rintro e u4 ⟨a9, cap9, rfl, ho9, hb9⟩
                have t4 := t3.fresh hb9 ho9 (Nat.le_refl _)
                refine And.intro (SO2.out _ _ (by simp) (by simp) t4) ?_
                go_simp
                refine Mix.take [8, 9, 10] 2 (by kernel_rfl) (by kernel_rfl) (by kernel_rfl) (by intro c a a' w e h; exact ⟨e.symm.trans h.1, h.2⟩) (SO2.out _ _ (by simp) (by simp) t4) ?_
                intro hne
                simp only [Mix.pickOps, List.filterMap_cons, List.filterMap_nil, List.getElem?_toArray, List.getElem?_cons_zero, List.getElem?_cons_succ]
                repeat (refine Mix.cons_form ?_; go_big_quiet_step (fail))
                refine wpQuiet_nil ?_
                clear hne
                have tF := t4.at1
                refine Mix.step (i := 12) (by kernel_rfl) rfl rfl ?_
                obtain ⟨cF, fF⟩ := tF.cells
                have tG := (tF.set 0 (.int .i64 (view + 1))).set 1 (.slice a9 ids2.length cap9)
                go_simp
                refine And.intro (SO2.out _ _ (by simp) (by simp) tG) ?_
                refine Mix.take [13] 0 (by kernel_rfl) (by kernel_rfl) (by kernel_rfl) (by intro c a a' w e h; exact ⟨e.symm.trans h.1, h.2⟩) (SO2.out _ _ (by simp) (by simp) tG) ?_
                intro hne
                simp only [Mix.pickOps, List.filterMap_cons, List.filterMap_nil, List.getElem?_toArray, List.getElem?_cons_zero, List.getElem?_cons_succ]
                repeat (refine Mix.cons_form ?_; go_big_quiet_step (fail))
                refine wpQuiet_nil ?_
                clear hne
                refine Mix.done (by kernel_rfl) ?_
                have z0 := tG.cells.1 0
                have z1 := tG.cells.1 1
                simp at z0 z1
                have y0 := tG.boxIn (V := VY) (cs := #[.int .i64 (view + 1), .slice a8 ids2.length cap8]) (t := 36) (by simp) 0 rfl
                have y1 := tG.boxIn (V := VY) (cs := #[.int .i64 (view + 1), .slice a8 ids2.length cap8]) (t := 36) (by simp) 1 rfl
                have I8 := tG.intsIn (a := a8) (n := ids2.length) (cap := cap8) (xs := ids2) (by simp) rfl
                have I9 := tG.intsIn (a := a9) (n := ids2.length) (cap := cap9) (xs := ids2) (by simp) rfl
                have HF := Lib.hid (fun W hb => HB.out W _ (tG.call hb))
                generalize (u4.setCell ⟨Z, 0, none⟩ (.int .i64 (view + 1))).setCell ⟨Z, 1, none⟩ (.slice a9 ids2.length cap9) = uF at *
                clear tF tG cF fF t0 t1 t2 t3 t4
                go_wp2_with fail
                refine (sameView_eq _ _ _ _ _ _ _ HLEN.out I8 I9).mono ?_
                rintro e w' ⟨rfl, hb⟩
                have HFF := Lib.hid (HF.out _ hb)
                clear hb z0 z1 y0 y1
                go_wp2_with fail
                go_ret
                exact ⟨ret_bool (by first | rfl | simp), HFF.out⟩
            · have t2 := t1.alloc (.cells #[.int .i64 0, .slice none 0 0] 36)
              go_simp
              refine And.intro (SO2.out _ _ (by simp) (by simp) t2) ?_
              go_simp
              generalize u1.alloc (.cells #[.int .i64 0, .slice none 0 0] 36 (0, 0)) = u2 at *
              generalize u1.heap.size = Z at *
              refine Mix.step (i := 5) (by kernel_rfl) rfl rfl ?_
              have t3 := t2.alloc (.cells #[.int .i64 x] 3)
              go_simp
              refine And.intro (SO2.out _ _ (by simp) (by simp) t3) ?_
              go_simp
              generalize u2.alloc (.cells #[.int .i64 x] 3 (0, 0)) = u3 at *
              generalize u2.heap.size = B5 at *
              refine Mix.step (i := 7) (by kernel_rfl) rfl rfl ?_
              go_simp
              refine (VN.out _ _ _ _ _ (t3.intsIn (cap := cap2) (by simp) rfl) (t3.oneInt (b := B5) (t := 3) (by simp)) (.inl rfl)).mono ?_
              rintro e u4 ⟨a9, cap9, rfl, ho9, hb9⟩
              have t4 := t3.fresh hb9 ho9 (Nat.le_refl _)
              refine And.intro (SO2.out _ _ (by simp) (by simp) t4) ?_
              go_simp
              refine Mix.take [8, 9, 10] 2 (by kernel_rfl) (by kernel_rfl) (by kernel_rfl) (by intro c a a' w e h; exact ⟨e.symm.trans h.1, h.2⟩) (SO2.out _ _ (by simp) (by simp) t4) ?_
              intro hne
              simp only [Mix.pickOps, List.filterMap_cons, List.filterMap_nil, List.getElem?_toArray, List.getElem?_cons_zero, List.getElem?_cons_succ]
              repeat (refine Mix.cons_form ?_; go_big_quiet_step (fail))
              refine wpQuiet_nil ?_
              clear hne
              have tF := t4.at2
              refine Mix.step (i := 12) (by kernel_rfl) rfl rfl ?_
              obtain ⟨cF, fF⟩ := tF.cells
              have tG := (tF.set 0 (.int .i64 (view + 1))).set 1 (.slice a9 ids2.length cap9)
              go_simp
              refine And.intro (SO2.out _ _ (by simp) (by simp) tG) ?_
              refine Mix.take [13] 0 (by kernel_rfl) (by kernel_rfl) (by kernel_rfl) (by intro c a a' w e h; exact ⟨e.symm.trans h.1, h.2⟩) (SO2.out _ _ (by simp) (by simp) tG) ?_
              intro hne
              simp only [Mix.pickOps, List.filterMap_cons, List.filterMap_nil, List.getElem?_toArray, List.getElem?_cons_zero, List.getElem?_cons_succ]
              repeat (refine Mix.cons_form ?_; go_big_quiet_step (fail))
              refine wpQuiet_nil ?_
              clear hne
              refine Mix.done (by kernel_rfl) ?_
              have z0 := tG.cells.1 0
              have z1 := tG.cells.1 1
              simp at z0 z1
              have y0 := tG.boxIn (V := VY) (cs := #[.int .i64 (view + 1), .slice a8 ids2.length cap8]) (t := 36) (by simp) 0 rfl
              have y1 := tG.boxIn (V := VY) (cs := #[.int .i64 (view + 1), .slice a8 ids2.length cap8]) (t := 36) (by simp) 1 rfl
              have I8 := tG.intsIn (a := a8) (n := ids2.length) (cap := cap8) (xs := ids2) (by simp) rfl
              have I9 := tG.intsIn (a := a9) (n := ids2.length) (cap := cap9) (xs := ids2) (by simp) rfl
              have HF := Lib.hid (fun W hb => HB.out W _ (tG.call hb))
              generalize (u4.setCell ⟨Z, 0, none⟩ (.int .i64 (view + 1))).setCell ⟨Z, 1, none⟩ (.slice a9 ids2.length cap9) = uF at *
              clear tF tG cF fF t0 t1 t2 t3 t4
              go_wp2_with fail
              refine (sameView_eq _ _ _ _ _ _ _ HLEN.out I8 I9).mono ?_
              rintro e w' ⟨rfl, hb⟩
              have HFF := Lib.hid (HF.out _ hb)
              clear hb z0 z1 y0 y1
              go_wp2_with fail
              go_ret
              exact ⟨ret_bool (by first | rfl | simp), HFF.out⟩
          · have t1 := t0.alloc (.cells #[.int .i64 0, .slice none 0 0] 36)
            go_simp
            refine And.intro (SO2.out _ _ (by simp) (by simp) t1) ?_
            go_simp
            generalize u0.alloc (.cells #[.int .i64 0, .slice none 0 0] 36 (0, 0)) = u1 at *
            generalize u0.heap.size = Z at *
            refine Mix.fork (i := 5) (j := 6) (by kernel_rfl) rfl rfl rfl rfl ?_ ?_
            · have t2 := t1.alloc (.cells #[.int .i64 x] 3)
              go_simp
              refine And.intro (SO2.out _ _ (by simp) (by simp) t2) ?_
              go_simp
              generalize u1.alloc (.cells #[.int .i64 x] 3 (0, 0)) = u2 at *
              generalize u1.heap.size = B5 at *
              refine Mix.step (i := 6) (by kernel_rfl) rfl rfl ?_
              have t3 := t2.alloc (.cells #[] 3)
              go_simp
              refine And.intro (SO2.out _ _ (by simp) (by simp) t3) ?_
              go_simp
              generalize u2.alloc (.cells #[] 3 (0, 0)) = u3 at *
              generalize u2.heap.size = B6 at *
              refine Mix.step (i := 7) (by kernel_rfl) rfl rfl ?_
              go_simp
              refine (VN.out _ _ _ _ _ (t3.intsIn (cap := cap2) (by simp) rfl) (t3.oneInt (b := B5) (t := 3) (by simp)) (.inl rfl)).mono ?_
              rintro e u4 ⟨a9, cap9, rfl, ho9, hb9⟩
              have t4 := t3.fresh hb9 ho9 (Nat.le_refl _)
              refine And.intro (SO2.out _ _ (by simp) (by simp) t4) ?_
              go_simp
              refine Mix.take [8, 9, 10] 2 (by kernel_rfl) (by kernel_rfl) (by kernel_rfl) (by intro c a a' w e h; exact ⟨e.symm.trans h.1, h.2⟩) (SO2.out _ _ (by simp) (by simp) t4) ?_
              intro hne
              simp only [Mix.pickOps, List.filterMap_cons, List.filterMap_nil, List.getElem?_toArray, List.getElem?_cons_zero, List.getElem?_cons_succ]
              repeat (refine Mix.cons_form ?_; go_big_quiet_step (fail))
              refine wpQuiet_nil ?_
              clear hne
              have tF := t4.at3
              refine Mix.step (i := 12) (by kernel_rfl) rfl rfl ?_
              obtain ⟨cF, fF⟩ := tF.cells
              have tG := (tF.set 0 (.int .i64 (view + 1))).set 1 (.slice a9 ids2.length cap9)
              go_simp
              refine And.intro (SO2.out _ _ (by simp) (by simp) tG) ?_
              refine Mix.take [13] 0 (by kernel_rfl) (by kernel_rfl) (by kernel_rfl) (by intro c a a' w e h; exact ⟨e.symm.trans h.1, h.2⟩) (SO2.out _ _ (by simp) (by simp) tG) ?_
              intro hne
              simp only [Mix.pickOps, List.filterMap_cons, List.filterMap_nil, List.getElem?_toArray, List.getElem?_cons_zero, List.getElem?_cons_succ]
              repeat (refine Mix.cons_form ?_; go_big_quiet_step (fail))
              refine wpQuiet_nil ?_
              clear hne
              refine Mix.done (by kernel_rfl) ?_
              have z0 := tG.cells.1 0
              have z1 := tG.cells.1 1
              simp at z0 z1
              have y0 := tG.boxIn (V := VY) (cs := #[.int .i64 (view + 1), .slice a8 ids2.length cap8]) (t := 36) (by simp) 0 rfl
              have y1 := tG.boxIn (V := VY) (cs := #[.int .i64 (view + 1), .slice a8 ids2.length cap8]) (t := 36) (by simp) 1 rfl
              have I8 := tG.intsIn (a := a8) (n := ids2.length) (cap := cap8) (xs := ids2) (by simp) rfl
              have I9 := tG.intsIn (a := a9) (n := ids2.length) (cap := cap9) (xs := ids2) (by simp) rfl
              have HF := Lib.hid (fun W hb => HB.out W _ (tG.call hb))
              generalize (u4.setCell ⟨Z, 0, none⟩ (.int .i64 (view + 1))).setCell ⟨Z, 1, none⟩ (.slice a9 ids2.length cap9) = uF at *
              clear tF tG cF fF t0 t1 t2 t3 t4
              go_wp2_with fail
              refine (sameView_eq _ _ _ _ _ _ _ HLEN.out I8 I9).mono ?_
              rintro e w' ⟨rfl, hb⟩
              have HFF := Lib.hid (HF.out _ hb)
              clear hb z0 z1 y0 y1
              go_wp2_with fail
              go_ret
              exact ⟨ret_bool (by first | rfl | simp), HFF.out⟩
            · have t2 := t1.alloc (.cells #[] 3)
              go_simp
              refine And.intro (SO2.out _ _ (by simp) (by simp) t2) ?_
              go_simp
              generalize u1.alloc (.cells #[] 3 (0, 0)) = u2 at *
              generalize u1.heap.size = B6 at *
              refine Mix.step (i := 5) (by kernel_rfl) rfl rfl ?_
              have t3 := t2.alloc (.cells #[.int .i64 x] 3)
              go_simp
              refine And.intro (SO2.out _ _ (by simp) (by simp) t3) ?_
              go_simp
              generalize u2.alloc (.cells #[.int .i64 x] 3 (0, 0)) = u3 at *
              generalize u2.heap.size = B5 at *
              refine Mix.step (i := 7) (by kernel_rfl) rfl rfl ?_
              go_simp
              refine (VN.out _ _ _ _ _ (t3.intsIn (cap := cap2) (by simp) rfl) (t3.oneInt (b := B5) (t := 3) (by simp)) (.inl rfl)).mono ?_
              rintro e u4 ⟨a9, cap9, rfl, ho9, hb9⟩
              have t4 := t3.fresh hb9 ho9 (Nat.le_refl _)
              refine And.intro (SO2.out _ _ (by simp) (by simp) t4) ?_
              go_simp
              refine Mix.take [8, 9, 10] 2 (by kernel_rfl) (by kernel_rfl) (by kernel_rfl) (by intro c a a' w e h; exact ⟨e.symm.trans h.1, h.2⟩) (SO2.out _ _ (by simp) (by simp) t4) ?_
              intro hne
              simp only [Mix.pickOps, List.filterMap_cons, List.filterMap_nil, List.getElem?_toArray, List.getElem?_cons_zero, List.getElem?_cons_succ]
              repeat (refine Mix.cons_form ?_; go_big_quiet_step (fail))
              refine wpQuiet_nil ?_
              clear hne
              have tF := t4.at3
              refine Mix.step (i := 12) (by kernel_rfl) rfl rfl ?_
              obtain ⟨cF, fF⟩ := tF.cells
              have tG := (tF.set 0 (.int .i64 (view + 1))).set 1 (.slice a9 ids2.length cap9)
              go_simp
              refine And.intro (SO2.out _ _ (by simp) (by simp) tG) ?_
              refine Mix.take [13] 0 (by kernel_rfl) (by kernel_rfl) (by kernel_rfl) (by intro c a a' w e h; exact ⟨e.symm.trans h.1, h.2⟩) (SO2.out _ _ (by simp) (by simp) tG) ?_
              intro hne
              simp only [Mix.pickOps, List.filterMap_cons, List.filterMap_nil, List.getElem?_toArray, List.getElem?_cons_zero, List.getElem?_cons_succ]
              repeat (refine Mix.cons_form ?_; go_big_quiet_step (fail))
              refine wpQuiet_nil ?_
              clear hne
              refine Mix.done (by kernel_rfl) ?_
              have z0 := tG.cells.1 0
              have z1 := tG.cells.1 1
              simp at z0 z1
              have y0 := tG.boxIn (V := VY) (cs := #[.int .i64 (view + 1), .slice a8 ids2.length cap8]) (t := 36) (by simp) 0 rfl
              have y1 := tG.boxIn (V := VY) (cs := #[.int .i64 (view + 1), .slice a8 ids2.length cap8]) (t := 36) (by simp) 1 rfl
              have I8 := tG.intsIn (a := a8) (n := ids2.length) (cap := cap8) (xs := ids2) (by simp) rfl
              have I9 := tG.intsIn (a := a9) (n := ids2.length) (cap := cap9) (xs := ids2) (by simp) rfl
              have HF := Lib.hid (fun W hb => HB.out W _ (tG.call hb))
              generalize (u4.setCell ⟨Z, 0, none⟩ (.int .i64 (view + 1))).setCell ⟨Z, 1, none⟩ (.slice a9 ids2.length cap9) = uF at *
              clear tF tG cF fF t0 t1 t2 t3 t4
              go_wp2_with fail
              refine (sameView_eq _ _ _ _ _ _ _ HLEN.out I8 I9).mono ?_
              rintro e w' ⟨rfl, hb⟩
              have HFF := Lib.hid (HF.out _ hb)
              clear hb z0 z1 y0 y1
              go_wp2_with fail
              go_ret
              exact ⟨ret_bool (by first | rfl | simp), HFF.out⟩
  · go_enter Try.func11, Try.ntmps11
    go_wp2_with fail
    go_ret
    exact ⟨rfl, Below.refl _ _⟩

end Go.Proofs.Ytgpnbcdboofikaa.fnViewDrop
