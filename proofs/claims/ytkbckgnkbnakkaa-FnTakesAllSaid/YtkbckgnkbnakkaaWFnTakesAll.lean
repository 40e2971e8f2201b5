/-
  The walk of FnTakesAll.
-/
import Derived.Test.YtkbckgnkbnakkaaD2
import Derived.Test.YtkbckgnkbnakkaaV3
import Derived.Deep.RegionHeld3
namespace Go.Proofs.Ytkbckgnkbnakkaa.fnTakesAll
open Go.RowKit Go.Proofs.Ytkbckgnkbnakkaa

theorem drew_below {a b : World} (h : Below a.drew.heap.size a.drew b) : Below a.heap.size a b := ⟨h.os, h.tape, h.output, h.size, h.block⟩

set_option maxHeartbeats 1000000 in
theorem walk (a0 : Option Addr) (len0 cap0 : Nat) (z0 : List Int) (w : World) (w0 : IsRow .u8 w a0 len0 cap0 z0) :
    Calls Try.prog 5 #[.slice a0 len0 cap0] w fun e w' => e = .returned (.bool true) ∧ Below w.heap.size w w' := by
  have hle := w0.le
  have hby := w0.bytes
  clear w0
  by_cases hbig : len0 ≤ 1048576
  · go_enter Try.func5, Try.ntmps5
    go_wp2_with fail
    refine (drawViewValid_calls _ _ _ _ hle.1 hle.2 hby).mono ?_
    rintro e w1 ⟨num, g, cap, xs, rfl, hn0, hn1, hx0, hx1, hxs, hown, hb1⟩
    go_wp2_with fail
    have s1 := hb1.size
    have hi1 := (own_ints hown).below ((Below.refl w1.heap.size w1).alloc (Nat.le_refl _) (.cells #[.int .i64 num, .slice (some ⟨g, 0, none⟩) xs.length cap] 25))
    refine (viewValid_calls _ _ _ _ _ (by omega) hi1).mono ?_
    rintro e w2 ⟨rfl, hb2⟩
    have s2 := hb2.size
    simp at s2
    have hV2 := (hb2.block w1.heap.size (by simp)).trans (heap_alloc_new w1 _)
    have hc20 : w2.cell? ⟨w1.heap.size, 0, none⟩ = some (.int .i64 num) := by rw [cell_of_heap hV2]; rfl
    have hc21 : w2.cell? ⟨w1.heap.size, 1, none⟩ = some (.slice (some ⟨g, 0, none⟩) xs.length cap) := by rw [cell_of_heap hV2]; rfl
    have hi2 := hi1.below hb2
    go_wp2_with fail
    refine (specViewValid_calls _ _ _ _ _ (by omega) hi2).mono ?_
    rintro e w3 ⟨rfl, hb3⟩
    have s3 := hb3.size
    have hV3 := (hb3.block w1.heap.size (by omega)).trans hV2
    have hc30 : w3.cell? ⟨w1.heap.size, 0, none⟩ = some (.int .i64 num) := by rw [cell_of_heap hV3]; rfl
    have hc31 : w3.cell? ⟨w1.heap.size, 1, none⟩ = some (.slice (some ⟨g, 0, none⟩) xs.length cap) := by rw [cell_of_heap hV3]; rfl
    have hi3 := hi2.below hb3
    have hbel : Below w.heap.size w w3 := (hb1.trans ((((Below.refl _ _).alloc (Nat.le_refl _) _).trans (hb2.mono (by simp))).mono s1)).trans (hb3.mono (by omega))
    have hown3 : w3.ownsRow w.heap.size 3 1 (.slice (some ⟨g, 0, none⟩) xs.length cap) xs.length (xs.map (Value.int .i64)) :=
      ((hown.alloc _).kept (below_grown hb2 none) (.inr (by simp [Value.ownBlock]))).kept (below_grown hb3 none) (.inr (by simp [Value.ownBlock]))
    cases hv : viewOk num xs with
    | false =>
      go_wp2_with fail
      go_ret
      exact ⟨rfl, hbel⟩
    | true =>
      have good : ∀ k, (hk : k + 1 < xs.length) → takesOk num xs xs[k] xs[k + 1] num = true := fun k hk => by
        rw [takes_adj hv]
        exact adj_yes k hk (by simp [pairAt, List.getD, hk, show k < xs.length by omega])
      have GOOD := Lib.hid good
      have hbw := lt_of_heap hV3
      have hlen : xs.length ≤ 1099511627776 := by omega
      clear hi1 hi2 hb2 hb1 hb3 hV2 hc20 hc21 hv good hown hown3
      generalize hVe : w1.heap.size = V at *
      clear hVe
      go_wp2_with fail
      go_loopw [6] (fun i wr => ∃ k : Nat, k + 1 ≤ xs.length ∧ i = .int .i64 k ∧ Below w3.heap.size w3 wr) (fun i _ => xs.length - (intOf i).toNat)
      case atStart => exact ⟨0, hx0, rfl, Below.refl _ _⟩
      case round =>
        obtain ⟨k, hk, rfl, hbel2⟩ := hrel
        have hV := (hbel2.block V hbw).trans hV3
        have hc0 : wr.cell? ⟨V, 0, none⟩ = some (.int .i64 num) := by rw [cell_of_heap hV]; rfl
        have hc1 : wr.cell? ⟨V, 1, none⟩ = some (.slice (some ⟨g, 0, none⟩) xs.length cap) := by rw [cell_of_heap hV]; rfl
        have hir := hi3.below hbel2
        clear hc30 hc31
        by_cases hlt : k + 1 < xs.length
        · rcases id hir with rfl | ⟨b, off, e, hc⟩
          · simp at hlt
          cases e
          have hcell0 : wr.cell? ⟨g, k, none⟩ = some (.int .i64 xs[k]) := by
            have := hc k (by omega)
            simpa [show k < xs.length by omega] using this
          have hcell1 : wr.cell? ⟨g, k + 1, none⟩ = some (.int .i64 xs[k + 1]) := by
            have := hc (k + 1) hlt
            simpa [hlt] using this
          have i1 : (0 : Int) ≤ (k : Int) := by omega
          have i2 : (k : Int) < (xs.length : Int) := by omega
          have i3 : (0 : Int) ≤ (k : Int) + 1 := by omega
          have i4 : (k : Int) + 1 < (xs.length : Int) := by omega
          have i5 : ((k : Int) + 1).toNat = k + 1 := by omega
          have i6 : IntKind.i64.wrap ((k : Int) + 1) = (k : Int) + 1 := by rw [IntKind.wrap_i64]; omega
          have G := Lib.hid (GOOD.out k hlt)
          clear hc
          generalize hy0 : xs[k] = y0 at *
          generalize hy1 : xs[k + 1] = y1 at *
          clear hy0 hy1
          go_wp2_with fail
          go_region_held3 (fun w' => w'.cell? ⟨V, 0, none⟩ = some (.int .i64 num) ∧ w'.cell? ⟨V, 1, none⟩ = some (.slice (some ⟨g, 0, none⟩) xs.length cap) ∧ w'.cell? ⟨g, k, none⟩ = some (.int .i64 y0) ∧ w'.cell? ⟨g, k + 1, none⟩ = some (.int .i64 y1))
            (first | go_keep | assumption | (go_split_ands; exact ⟨d0, d1, d2, d3⟩))
            ((go_at_call 21; refine (viewTakes_calls _ _ _ _ _ _ _ _ hlen (by exact hir)).mono ?_; rw [G.out]; rintro e w5 ⟨rfl, hb5'⟩; have hb5 := drew_below hb5'; have d0 : w5.cell? ⟨V, 0, none⟩ = some (.int .i64 num) := (by rw [hb5.cell (p := ⟨V, 0, none⟩) (lt_of_cell hc0)]; exact hc0); have d1 : w5.cell? ⟨V, 1, none⟩ = some (.slice (some ⟨g, 0, none⟩) xs.length cap) := (by rw [hb5.cell (p := ⟨V, 1, none⟩) (lt_of_cell hc1)]; exact hc1); have d2 : w5.cell? ⟨g, k, none⟩ = some (.int .i64 y0) := (by rw [hb5.cell (p := ⟨g, k, none⟩) (lt_of_cell hcell0)]; exact hcell0); have d3 : w5.cell? ⟨g, k + 1, none⟩ = some (.int .i64 y1) := (by rw [hb5.cell (p := ⟨g, k + 1, none⟩) (lt_of_cell hcell1)]; exact hcell1)))
          go_wp2_with fail
          go_roundw
          case rel => exact ⟨k + 1, hlt, by go_num, hbel2.trans (hb5.mono hbel2.size)⟩
          case measure => simp [intOf]; omega
        · go_wp2_with fail
          go_ret
          exact ⟨rfl, hbel.trans (hbel2.mono hbel.size)⟩
  · go_enter Try.func5, Try.ntmps5
    go_wp2_with fail
    go_ret
    exact ⟨rfl, Below.refl _ _⟩

end Go.Proofs.Ytkbckgnkbnakkaa.fnTakesAll
