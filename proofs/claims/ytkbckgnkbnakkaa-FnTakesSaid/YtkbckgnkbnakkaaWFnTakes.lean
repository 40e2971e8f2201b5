/-
  The walk of FnTakes.
-/
import Derived.Test.YtkbckgnkbnakkaaD3
import Derived.Test.YtkbckgnkbnakkaaV3
namespace Go.Proofs.Ytkbckgnkbnakkaa.fnTakes
open Go.RowKit Go.Proofs.Ytkbckgnkbnakkaa

theorem takes_parts {num : Int} {xs : List Int} {f t n : Int} (h : takesOk num xs f t n = true) : viewOk num xs = true ∧ num = n ∧ adj xs f t = true := by
  rw [takesOk, Bool.and_eq_true, Bool.and_eq_true, decide_eq_true_eq] at h
  exact ⟨h.1.1, h.1.2, h.2⟩

set_option maxHeartbeats 1000000 in
theorem walk (a0 : Option Addr) (len0 cap0 : Nat) (z0 : List Int) (w : World) (w0 : IsRow .u8 w a0 len0 cap0 z0) :
    Calls Try.prog 6 #[.slice a0 len0 cap0] w fun e w' => e = .returned (.bool true) ∧ Below w.heap.size w w' := by
  have hle := w0.le
  have hby := w0.bytes
  clear w0
  by_cases hbig : len0 ≤ 1048576
  · go_enter Try.func6, Try.ntmps6
    go_wp2_with fail
    refine (drawViewTakes_calls _ _ _ _ hle.1 hle.2 hby).mono ?_
    rintro e w1 ⟨num, f, t, n, g, cap, xs, rfl, hn0, hn1, hm0, hm1, hx0, hx1, hown, hb1⟩
    go_wp2_with fail
    have s1 := hb1.size
    have hi1 := (own_ints hown).below ((Below.refl w1.heap.size w1).alloc (Nat.le_refl _) (.cells #[.int .i64 num, .slice (some ⟨g, 0, none⟩) xs.length cap] 25))
    have hlen : xs.length ≤ 1099511627776 := by omega
    refine (viewTakes_calls _ _ _ _ _ _ _ _ hlen hi1).mono ?_
    rintro e w2 ⟨rfl, hb2⟩
    have s2 := hb2.size
    simp at s2
    have hV2 := (hb2.block w1.heap.size (by simp)).trans (heap_alloc_new w1 _)
    have hc20 : w2.cell? ⟨w1.heap.size, 0, none⟩ = some (.int .i64 num) := by rw [cell_of_heap hV2]; rfl
    have hc21 : w2.cell? ⟨w1.heap.size, 1, none⟩ = some (.slice (some ⟨g, 0, none⟩) xs.length cap) := by rw [cell_of_heap hV2]; rfl
    have hi2 := hi1.below hb2
    go_wp2_with fail
    refine (specViewTakes_calls _ _ _ _ _ _ _ _ hlen hi2).mono ?_
    rintro e w3 ⟨rfl, hb3⟩
    have s3 := hb3.size
    have hV3 := (hb3.block w1.heap.size (by omega)).trans hV2
    have hc30 : w3.cell? ⟨w1.heap.size, 0, none⟩ = some (.int .i64 num) := by rw [cell_of_heap hV3]; rfl
    have hc31 : w3.cell? ⟨w1.heap.size, 1, none⟩ = some (.slice (some ⟨g, 0, none⟩) xs.length cap) := by rw [cell_of_heap hV3]; rfl
    have hi3 := hi2.below hb3
    have hbel : Below w.heap.size w w3 := (hb1.trans ((((Below.refl _ _).alloc (Nat.le_refl _) _).trans (hb2.mono (by simp))).mono s1)).trans (hb3.mono (by omega))
    cases hv : takesOk num xs f t n with
    | false =>
      go_wp2_with fail
      go_ret
      exact ⟨rfl, hbel⟩
    | true =>
      obtain ⟨p1, p2, p3⟩ := takes_parts hv
      subst p2
      have k2 : takesOk num xs t f num = true := by rw [takes_adj p1, adj_swap, p3]
      have K2 := Lib.hid k2; have HA := Lib.hid p3
      have hbw := lt_of_heap hV3
      clear hi1 hi2 hb2 hb1 hb3 hV2 hc20 hc21 hv p1 p3 k2
      generalize hVe : w1.heap.size = V at *
      clear hVe
      go_wp2_with fail
      go_loopw [9] (fun i wr => ∃ k : Nat, k + 1 ≤ xs.length ∧ i = .int .i64 k ∧ (∀ j, j < k → pairAt xs f t j = false) ∧ Below w3.heap.size w3 wr) (fun i _ => xs.length - (intOf i).toNat)
      case atStart => exact ⟨0, hx0, rfl, by intro j hj; omega, Below.refl _ _⟩
      case round =>
        obtain ⟨k, hk, rfl, hno, hbel2⟩ := hrel
        have hV := (hbel2.block V hbw).trans hV3
        have hc0 : wr.cell? ⟨V, 0, none⟩ = some (.int .i64 num) := by rw [cell_of_heap hV]; rfl
        have hc1 : wr.cell? ⟨V, 1, none⟩ = some (.slice (some ⟨g, 0, none⟩) xs.length cap) := by rw [cell_of_heap hV]; rfl
        have hir := hi3.below hbel2
        have HNO := Lib.hid hno
        clear hno hc30 hc31
        by_cases hlt : k + 1 < xs.length
        · rcases id hir with rfl | ⟨b, off, e, hc⟩
          · simp at hlt
          cases e
          have hcell0 : wr.cell? ⟨g, k, none⟩ = some (.int .i64 xs[k]) := by
            have := hc k (by omega)
            simpa [show k < xs.length by omega] using this
          have hcell1 : wr.cell? ⟨g, k + 1, none⟩ = some (.int .i64 xs[k + 1]) := by
            have := hc (k + 1) hlt
            simpa [hlt] using this
          have i1 : (0 : Int) ≤ (k : Int) := by omega
          have i2 : (k : Int) < (xs.length : Int) := by omega
          have i3 : (0 : Int) ≤ (k : Int) + 1 := by omega
          have i4 : (k : Int) + 1 < (xs.length : Int) := by omega
          have i5 : ((k : Int) + 1).toNat = k + 1 := by omega
          have hp : pairAt xs f t k = ((xs[k] == f && xs[k + 1] == t) || (xs[k] == t && xs[k + 1] == f)) := by
            simp [pairAt, List.getD, hlt, show k < xs.length by omega]
          have HP := Lib.hid hp
          have step : pairAt xs f t k = false → ∀ j, j < k + 1 → pairAt xs f t j = false := fun h j hj => by
            by_cases e : j = k
            · rw [e]; exact h
            · exact HNO.out j (by omega)
          have STEP := Lib.hid step
          clear hc hp step
          generalize hy0 : xs[k] = y0 at *
          generalize hy1 : xs[k + 1] = y1 at *
          clear hy0 hy1
          cases h1 : (y0 == f) <;> cases h2 : (y1 == t) <;> cases h3 : (y0 == t) <;> cases h4 : (y1 == f)
          all_goals
            have hq := HP.out
            rw [h1, h2, h3, h4] at hq
            have HQ := Lib.hid hq
            clear hq
            go_wp2_with fail
            first
              | (go_roundw
                 case rel => exact ⟨k + 1, hlt, by go_num, STEP.out HQ.out, hbel2⟩
                 case measure => simp [intOf]; omega)
              | (refine (viewTakes_calls _ _ _ _ _ _ _ _ hlen hir).mono ?_
                 rw [K2.out]
                 rintro e w5 ⟨rfl, hb5⟩
                 have hV5 := (hb5.block V (by have := hbel2.size; omega)).trans hV
                 have hc50 : w5.cell? ⟨V, 0, none⟩ = some (.int .i64 num) := by rw [cell_of_heap hV5]; rfl
                 go_wp2_with fail
                 go_ret
                 exact ⟨rfl, (hbel.trans (hbel2.mono hbel.size)).trans (hb5.mono (Nat.le_trans hbel.size hbel2.size))⟩)
        · exfalso
          rw [adj_no (fun j hj => HNO.out j (by omega))] at HA
          exact Bool.noConfusion HA.out
  · go_enter Try.func6, Try.ntmps6
    go_wp2_with fail
    go_ret
    exact ⟨rfl, Below.refl _ _⟩

end Go.Proofs.Ytkbckgnkbnakkaa.fnTakes
