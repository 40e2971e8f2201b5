
/-
  The walk of FnSafeDrop.
-/
import Derived.Test.YtgpnbcdboofikaaC11
import Derived.Test.YtgpnbcdboofikaaC9
import Derived.Test.YtgpnbcdboofikaaC14
import Derived.Test.YtgpnbcdboofikaaC16
namespace Go.Proofs.Ytgpnbcdboofikaa.fnSafeDrop
open Go.RowKit Go.Proofs.Ytgpnbcdboofikaa

theorem fixTail_us (ns : List Nd) (i : Nat) : (nd (fixTail ns) i).us = (nd ns i).us := by
  unfold fixTail
  by_cases h : ns.length - 1 < ns.length
  · rw [nd_set i h]
    by_cases e : ns.length - 1 = i
    · rw [if_pos e, e]
    · rw [if_neg e]
  · rw [List.set_eq_of_length_le (by omega)]
theorem safe_drop {view : Int} {ns ms : List Nd} {x : Int} (h2 : 2 ≤ ns.length) (hd : dropOk view ns x = true) (hk : keys ms = dropKeys view ns x) : 1 ≤ ms.length ∧ safeOf view ns 1 ≤ (nd ms 0).us.length := by
  rw [dropKeys, if_pos hd] at hk
  rw [dropOk, Bool.and_eq_true, Bool.and_eq_true] at hd
  obtain ⟨⟨h1, h3⟩, h4⟩ := hd
  have hl : ms.length = (left ns (cplace ns x).toNat).length := by rw [← keys_len ms, hk, keys_len]
  refine ⟨by rw [hl]; exact (chainOk_iff.1 h4).2.1.1, ?_⟩
  rw [(keys_nd hk 0).2.1, left, fixTail_us]
  have ho := one_safe h1 (by omega)
  have hs := chain_shrinks h1 0 1 (by omega)
  rw [Nat.zero_add] at hs
  generalize (cplace ns x).toNat = g at *
  have e : nd (ns.eraseIdx g) 0 = nd ns 0 ∨ nd (ns.eraseIdx g) 0 = nd ns 1 := by
    unfold nd
    simp only [List.getD_eq_getElem?_getD, List.getElem?_eraseIdx]
    by_cases h : 0 < g
    · left; rw [if_pos h]
    · right; rw [if_neg h]
  rcases e with e | e <;> rw [e] <;> omega

set_option maxRecDepth 100000 in
set_option maxHeartbeats 4000000 in
theorem walk (a0 : Option Addr) (len0 cap0 : Nat) (z0 : List Int) (a1 : Option Addr) (len1 cap1 : Nat) (z1 : List Int) (w : World) (w0 : IsRow .u8 w a0 len0 cap0 z0) (w01 : IsRow .u8 w a1 len1 cap1 z1) :
    Calls Try.prog 9 #[.slice a0 len0 cap0, .slice a1 len1 cap1] w fun e w' => e = .returned (.bool true) ∧ Below w.heap.size w w' := by
  have hle := w0.le
  have hle1 := w01.le
  have hby := w0.bytes
  clear w0 w01
  by_cases hbig : len0 ≤ 1048576
  · by_cases hbig1 : len1 ≤ 1048576
    · go_enter Try.func9, Try.ntmps9
      go_wp2_with fail
      refine (drawCountSafe_calls _ _ _ _ hle.1 hle.2 hby).mono ?_
      rintro e w1 ⟨view, a, cap, ns, fail, rfl, ⟨hn1, hn5, hcap, hsh, hf0, hf1⟩, hx, hb1⟩
      have hm : ns.length ≤ 1099511627776 := by omega
      have hsm : Short ns 1099511627776 := fun n hn => Nat.le_trans (hsh n hn) (by omega)
      have HB := Lib.hid (fun W R (k : St w1 W R) => hb1.trans (k.below.mono hb1.size))
      have s1 := (St.start w1).alloc (.cells #[.int .i64 view, .slice a ns.length cap] 25)
      have IM := Lib.hid (fun f W (h : NodesAt W a ns) => countSafe_calls view a cap ns f W hm hsm h)
      have SP := Lib.hid (fun f W (h : NodesAt W a ns) => specCountSafe_calls view a cap ns f W hm hcap hsm h)
      have CD := Lib.hid (fun x W (h : NodesAt W a ns) => chainDrop_calls view a cap ns x W hm hsm h)
      have SD := Lib.hid (fun ms x => safe_drop (view := view) (ns := ns) (ms := ms) (x := x))
      have hbd := safe_bd (view := view) (ns := ns) (fail := fail)
      clear hby hb1 hsm hsh
      go_wp2_with fail
      refine (IM.out _ _ (hx.below s1.below)).mono ?_
      rintro e w2 ⟨rfl, hb2⟩
      have s2 := s1.call hb2
      obtain ⟨c2, _⟩ := s2.cells
      clear s1 hb2
      go_wp2_with fail
      refine (SP.out _ _ (hx.below s2.below)).mono ?_
      rintro e w3 ⟨rfl, hb3⟩
      have s3 := s2.call hb3
      obtain ⟨c3, _⟩ := s3.cells
      clear s2 hb3 c2 SP
      by_cases hz : safeOf view ns fail < 0
      · generalize safeOf view ns fail = z at *
        clear SD
        go_wp2_with fail
        go_ret
        exact ⟨ret_bool (by first | rfl | simp), HB.out _ _ s3⟩
      · generalize safeOf view ns fail = z at *
        by_cases h2 : 2 ≤ ns.length
        · go_wp2_with fail
          refine (IM.out _ _ (hx.below s3.below)).mono ?_
          rintro e w4 ⟨rfl, hb4⟩
          have s4 := s3.call hb4
          clear s3 hb4 c3
          have hy := safe_bd (view := view) (ns := ns) (fail := 1)
          generalize safeOf view ns 1 = y at *
          obtain ⟨c4, _⟩ := s4.cells
          have hg : len1 % ns.length < ns.length := Nat.mod_lt _ (by omega)
          have k0 := c4 0
          have k1 := c4 1
          simp at k0 k1
          obtain ⟨b, off, rfl, d0, _, _⟩ := (hx.below s4.below).cells (len1 % ns.length) hg
          have DC := Lib.hid (fun W R (s : St w1 W R) => by
            obtain ⟨b', off', e, d, _, _⟩ := (hx.below s.below).cells (len1 % ns.length) hg
            cases e
            exact d)
          have hmod : (len1 : Int).tmod (ns.length : Int) = ((len1 % ns.length : Nat) : Int) := by
            rw [Int.ofNat_tmod]
          generalize len1 % ns.length = g at *
          have SD2 := Lib.hid (fun ms => SD.out ms (nd ns g).id h2)
          have CD2 := Lib.hid (fun W R (s : St w1 W R) => CD.out (nd ns g).id W (hx.below s.below))
          generalize (nd ns g).id = x at *
          generalize dropOk view ns x = ok at *
          generalize dropNum view ns x = num at *
          generalize dropKeys view ns x = ks at *
          clear c4 CD SD IM
          go_wp2_with fail
          generalize w1.heap.size = V at *
          obtain ⟨S, hS⟩ := Mix.named (fun w' => w'.cell? ⟨V, 0, none⟩ = some (.int .i64 view) ∧ w'.cell? ⟨V, 1, none⟩ = some (.slice (some ⟨b, off, none⟩) ns.length cap) ∧ w'.cell? ⟨b, off + g * 3, none⟩ = some (.int .i64 x))
          have HS := Lib.hid hS
          have e0 := Mix.held_cell (fun w h => ((hS w).1 h).1)
          have e1 := Mix.held_cell (fun w h => ((hS w).1 h).2.1)
          have e2 := Mix.held_cell (fun w h => ((hS w).1 h).2.2)
          clear hS
          have SO := Lib.hid (fun W rr (hr : box V #[.int .i64 view, .slice (some ⟨b, off, none⟩) ns.length cap] 25 ∈ rr) (s : St w1 W rr) => by
            have a0 := cell_of_heap (o := 0) (s.pull hr).boxAt
            have a1 := cell_of_heap (o := 1) (s.pull hr).boxAt
            simp at a0 a1
            exact (HS.out W).2 ⟨a0, a1, DC.out W rr s⟩)
          have s5 := s4.drew
          clear k0 k1 d0
          refine Mix.start S 99 (by kernel_rfl) ?_
          refine Mix.take [0, 1, 2, 3, 4, 5, 6, 7, 8, 9, 10, 11] 7 (by kernel_rfl) (by kernel_rfl) (by kernel_rfl) (by intro c a a' w e h; exact ⟨e.symm.trans h.1, h.2⟩) (SO.out _ _ (by simp) s5) ?_
          intro hne
          simp only [Mix.pickOps, List.filterMap_cons, List.filterMap_nil, List.getElem?_toArray, List.getElem?_cons_zero, List.getElem?_cons_succ]
          repeat (refine Mix.cons_form ?_; go_big_quiet_step (fail))
          refine wpQuiet_nil ?_
          clear hne
          refine Mix.fork (i := 12) (j := 16) (by kernel_rfl) rfl rfl rfl rfl ?_ ?_
          focus
            go_simp
            refine (CD2.out _ _ s5).mono ?_
            rintro e w6 ⟨a6, cap6, ms, rfl, hk, s6⟩
            have s7 := s5.join s6
            refine And.intro (SO.out _ _ (by simp) s7) ?_
            go_simp
            refine Mix.take [13, 14, 15] 3 (by kernel_rfl) (by kernel_rfl) (by kernel_rfl) (by intro c a a' w e h; exact ⟨e.symm.trans h.1, h.2⟩) (SO.out _ _ (by simp) s7) ?_
            intro hne
            simp only [Mix.pickOps, List.filterMap_cons, List.filterMap_nil, List.getElem?_toArray, List.getElem?_cons_zero, List.getElem?_cons_succ]
            repeat (refine Mix.cons_form ?_; go_big_quiet_step (fail))
            refine wpQuiet_nil ?_
            clear hne
            refine Mix.step (i := 16) (by kernel_rfl) rfl rfl ?_
            have s8 := s7.alloc (.cells #[.int .i64 0, .slice none 0 0] 25)
            go_simp
            refine And.intro (SO.out _ _ (by simp) s8) ?_
            go_simp
            generalize w6.heap.size = X at *
          rotate_left
          focus
            have s6 := s5.alloc (.cells #[.int .i64 0, .slice none 0 0] 25)
            go_simp
            refine And.intro (SO.out _ _ (by simp) s6) ?_
            go_simp
            refine Mix.step (i := 12) (by kernel_rfl) rfl rfl ?_
            go_simp
            refine (CD2.out _ _ s6).mono ?_
            rintro e w6 ⟨a6, cap6, ms, rfl, hk, k6⟩
            have s7 := s6.join k6
            refine And.intro (SO.out _ _ (by simp) s7) ?_
            go_simp
            refine Mix.take [13, 14, 15] 2 (by kernel_rfl) (by kernel_rfl) (by kernel_rfl) (by intro c a a' w e h; exact ⟨e.symm.trans h.1, h.2⟩) (SO.out _ _ (by simp) s7) ?_
            intro hne
            simp only [Mix.pickOps, List.filterMap_cons, List.filterMap_nil, List.getElem?_toArray, List.getElem?_cons_zero, List.getElem?_cons_succ]
            repeat (refine Mix.cons_form ?_; go_big_quiet_step (fail))
            refine wpQuiet_nil ?_
            clear hne
            have s8 : St w1 w6 (box w4.heap.size #[.int .i64 0, .slice none 0 0] 25 :: row (.slice a6 ms.length cap6) 32 3 ms.length (ncells ms) :: (nds ms ++ [box V #[.int .i64 view, .slice (some ⟨b, off, none⟩) ns.length cap] 25])) := s7.perm (List.perm_middle (l₁ := row (.slice a6 ms.length cap6) 32 3 ms.length (ncells ms) :: nds ms))
            generalize w4.heap.size = X at *
          all_goals
            refine Mix.step (i := 17) (by kernel_rfl) rfl rfl ?_
            obtain ⟨c8, f8⟩ := s8.cells
            have s9 := (s8.set 0 (.int .i64 num)).set 1 (.slice a6 ms.length cap6)
            have q9 := s9.cells.1
            go_simp
            refine And.intro (SO.out _ _ (by simp) s9) ?_
            refine Mix.take [18] 0 (by kernel_rfl) (by kernel_rfl) (by kernel_rfl) (by intro c a a' w e h; exact ⟨e.symm.trans h.1, h.2⟩) (SO.out _ _ (by simp) s9) ?_
            intro hne
            simp only [Mix.pickOps, List.filterMap_cons, List.filterMap_nil, List.getElem?_toArray, List.getElem?_cons_zero, List.getElem?_cons_succ]
            repeat (refine Mix.cons_form ?_; go_big_quiet_step (fail))
            refine wpQuiet_nil ?_
            clear hne
            refine Mix.done (by kernel_rfl) ?_
            have q0 := q9 0
            have q1 := q9 1
            simp at q0 q1
            have FIN := Lib.hid (HB.out _ _ s9)
            have hn9 := nodes_of s9.drop (by intro r hr; simp [hr])
            clear s5 s6 s7 s8 s9 c8 f8 q9
            cases ok with
            | true =>
              obtain ⟨m1, m2⟩ := SD2.out ms rfl hk
              obtain ⟨b9, off9, rfl, _, e1, _⟩ := hn9.cells 0 (by omega)
              rw [Nat.zero_mul, Nat.add_zero] at e1
              generalize (nd ms 0).us.length = l at *
              go_wp2_with fail
              go_ret
              exact ⟨ret_bool (by first | rfl | simp), FIN.out⟩
            | false =>
              go_wp2_with fail
              go_ret
              exact ⟨ret_bool (by first | rfl | simp), FIN.out⟩
        · go_wp2_with fail
          go_ret
          exact ⟨ret_bool (by first | rfl | simp), HB.out _ _ s3⟩
    · go_enter Try.func9, Try.ntmps9
      go_wp2_with fail
      go_ret
      exact ⟨rfl, Below.refl _ _⟩
  · go_enter Try.func9, Try.ntmps9
    go_wp2_with fail
    go_ret
    exact ⟨rfl, Below.refl _ _⟩

end Go.Proofs.Ytgpnbcdboofikaa.fnSafeDrop
