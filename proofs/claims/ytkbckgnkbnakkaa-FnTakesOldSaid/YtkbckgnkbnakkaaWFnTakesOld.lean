/-
  The walk of FnTakesOld.
-/
import Derived.Test.YtkbckgnkbnakkaaD3
import Derived.Test.YtkbckgnkbnakkaaV3
namespace Go.Proofs.Ytkbckgnkbnakkaa.fnTakesOld
open Go.RowKit Go.Proofs.Ytkbckgnkbnakkaa

theorem takes_parts {num : Int} {xs : List Int} {f t n : Int} (h : takesOk num xs f t n = true) : viewOk num xs = true ∧ num = n ∧ adj xs f t = true := by
  rw [takesOk, Bool.and_eq_true, Bool.and_eq_true, decide_eq_true_eq] at h
  exact ⟨h.1.1, h.1.2, h.2⟩

set_option maxHeartbeats 1000000 in
theorem walk (a0 : Option Addr) (len0 cap0 : Nat) (z0 : List Int) (w : World) (w0 : IsRow .u8 w a0 len0 cap0 z0) :
    Calls Try.prog 7 #[.slice a0 len0 cap0] w fun e w' => e = .returned (.bool true) ∧ Below w.heap.size w w' := by
  have hle := w0.le
  have hby := w0.bytes
  clear w0
  by_cases hbig : len0 ≤ 1048576
  · go_enter Try.func7, Try.ntmps7
    go_wp2_with fail
    refine (drawViewTakes_calls _ _ _ _ hle.1 hle.2 hby).mono ?_
    rintro e w1 ⟨num, f, t, n, g, cap, xs, rfl, hn0, hn1, hm0, hm1, hx0, hx1, hown, hb1⟩
    go_wp2_with fail
    have s1 := hb1.size
    have hi1 := (own_ints hown).below ((Below.refl w1.heap.size w1).alloc (Nat.le_refl _) (.cells #[.int .i64 num, .slice (some ⟨g, 0, none⟩) xs.length cap] 25))
    have hlen : xs.length ≤ 1099511627776 := by omega
    refine (viewTakes_calls _ _ _ _ _ _ _ _ hlen hi1).mono ?_
    rintro e w2 ⟨rfl, hb2⟩
    have s2 := hb2.size
    simp at s2
    have hV2 := (hb2.block w1.heap.size (by simp)).trans (heap_alloc_new w1 _)
    have hc20 : w2.cell? ⟨w1.heap.size, 0, none⟩ = some (.int .i64 num) := by rw [cell_of_heap hV2]; rfl
    have hc21 : w2.cell? ⟨w1.heap.size, 1, none⟩ = some (.slice (some ⟨g, 0, none⟩) xs.length cap) := by rw [cell_of_heap hV2]; rfl
    have hi2 := hi1.below hb2
    go_wp2_with fail
    refine (specViewTakes_calls _ _ _ _ _ _ _ _ hlen hi2).mono ?_
    rintro e w3 ⟨rfl, hb3⟩
    have s3 := hb3.size
    have hV3 := (hb3.block w1.heap.size (by omega)).trans hV2
    have hc30 : w3.cell? ⟨w1.heap.size, 0, none⟩ = some (.int .i64 num) := by rw [cell_of_heap hV3]; rfl
    have hc31 : w3.cell? ⟨w1.heap.size, 1, none⟩ = some (.slice (some ⟨g, 0, none⟩) xs.length cap) := by rw [cell_of_heap hV3]; rfl
    have hi3 := hi2.below hb3
    have hbel : Below w.heap.size w w3 := (hb1.trans ((((Below.refl _ _).alloc (Nat.le_refl _) _).trans (hb2.mono (by simp))).mono s1)).trans (hb3.mono (by omega))
    cases hv : takesOk num xs f t n with
    | false =>
      go_wp2_with fail
      go_ret
      exact ⟨rfl, hbel⟩
    | true =>
      obtain ⟨p1, p2, p3⟩ := takes_parts hv
      have k1 : takesOk num xs f t (n + 1) = false := takes_bad2 (by omega)
      have k2 : takesOk num xs f f n = false := by rw [← p2, takes_adj p1, adj_self (viewOk_ids p1).1]
      have K1 := Lib.hid k1; have K2 := Lib.hid k2
      clear hi1 hi2 hb2 hb1 hb3 hV2 hown hc20 hc21 hv p1 p2 p3 k1 k2
      go_wp2_with fail
      refine (viewTakes_calls _ _ _ _ _ _ _ _ hlen hi3).mono ?_
      rw [K1.out]
      rintro e w4 ⟨rfl, hb4⟩
      have hV4 := (hb4.block w1.heap.size (by omega)).trans hV3
      have hc40 : w4.cell? ⟨w1.heap.size, 0, none⟩ = some (.int .i64 num) := by rw [cell_of_heap hV4]; rfl
      have hc41 : w4.cell? ⟨w1.heap.size, 1, none⟩ = some (.slice (some ⟨g, 0, none⟩) xs.length cap) := by rw [cell_of_heap hV4]; rfl
      have hi4 := hi3.below hb4
      have s4 := hb4.size
      go_wp2_with fail
      refine (viewTakes_calls _ _ _ _ _ _ _ _ hlen hi4).mono ?_
      rw [K2.out]
      rintro e w5 ⟨rfl, hb5⟩
      go_wp2_with fail
      go_ret
      exact ⟨rfl, (hbel.trans (hb4.mono (by omega))).trans (hb5.mono (by omega))⟩
  · go_enter Try.func7, Try.ntmps7
    go_wp2_with fail
    go_ret
    exact ⟨rfl, Below.refl _ _⟩

end Go.Proofs.Ytkbckgnkbnakkaa.fnTakesOld
