/-
  The walk of FnExactViewValid.
-/
import Derived.Test.YtkbckgnkbnakkaaE2
import Derived.Test.YtkbckgnkbnakkaaOp2
import Derived.Deep.RegionHeld3
namespace Go.Proofs.Ytkbckgnkbnakkaa.fnExactViewValid
open Go.RowKit Go.Proofs.Ytkbckgnkbnakkaa

set_option maxHeartbeats 2000000 in
theorem walk (v0 : Value) (w : World) (h0 : IsViewV w v0) :
    Calls Try.prog 4 #[v0] w fun e w' => e = .returned (.bool true) ∧ Below w.heap.size w w' := by
  obtain ⟨num, u, rfl, hfit, a, cap, xs, rfl, hc, hm, hx⟩ := h0
  have HF := Lib.hid hfit
  clear hfit
  have s0 := (St.start w).alloc (.cells #[.int .i64 num, .slice a xs.length cap] 29)
  by_cases hl : xs.length ≤ 1048576
  · have l1 : xs.length ≤ 2097152 := by omega
    have l2 : xs.length ≤ 1099511627776 := by omega
    have z1 : 0 ≤ (1048576 : Int) - (xs.length : Int) := by omega
    go_enter Try.func4, Try.ntmps4
    go_wp2_with fail
    refine (szView_yes num a xs.length cap 1048576 _ (by omega) (by omega)).mono ?_
    rintro e w1 ⟨rfl, hb1⟩
    have s1 := s0.call hb1
    obtain ⟨c1, _⟩ := s1.cells
    go_wp2_with fail
    refine (toView_calls num a cap xs _ l1 (hx.below s1.below)).mono ?_
    rintro e w2 ⟨a2, cap2, rfl, ho2, hb2⟩
    have s2 := (s1.call hb2)
    have i2 := own_intsR ho2
    obtain ⟨c2, _⟩ := s2.cells
    go_wp2_with fail
    refine (specViewValid_calls _ _ _ _ _ l2 i2).mono ?_
    rintro e w3 ⟨rfl, hb3⟩
    have s3 := s2.call hb3
    obtain ⟨c3, _⟩ := s3.cells
    generalize hv : viewOk num xs = ok at *
    have HV := Lib.hid hv
    clear s0 s1 s2 c1 c2 hb1 hb2 hb3 ho2 i2 hv
    go_wp2_with fail
    refine (toView_calls num a cap xs _ l1 (hx.below s3.below)).mono ?_
    rintro e w4 ⟨a4, cap4, rfl, ho4, hb4⟩
    have s4 := s3.fresh hb4 ho4 (Nat.le_refl _)
    have s5 := s4.alloc (.cells #[.int .i64 num, .slice a4 xs.length cap4] 25)
    obtain ⟨c4, _⟩ := s4.at1.cells
    have n4 := s4.at1.lt.2
    clear s3 c3 ho4 hb4
    go_wp2_with fail
    refine (viewValid_calls _ _ _ _ _ l2 (own_intsR s5.at1.own)).mono ?_
    rw [HV.out]
    rintro e w6 ⟨rfl, hb6⟩
    have s6 := s5.call hb6
    obtain ⟨c6, _⟩ := s6.cells
    obtain ⟨d6, _⟩ := s6.at2.cells
    clear s4 s5 c4 hb6
    go_wp2_with fail
    have hx6 := hx.below s6.below
    have k0 := c6 0
    have k1 := c6 1
    have k2 := d6 0
    have k3 := d6 1
    simp at k0 k1 k2 k3
    have m0 := s6.lt.2
    have m1 := s6.at2.lt.2
    clear c6 d6
    go_region_held3 (fun w' => w'.cell? ⟨w4.heap.size, 0, none⟩ = some (.int .i64 num) ∧ w'.cell? ⟨w4.heap.size, 1, none⟩ = some (.slice a4 xs.length cap4) ∧ w'.cell? ⟨w.heap.size, 0, none⟩ = some (.int .i64 num) ∧ w'.cell? ⟨w.heap.size, 1, none⟩ = some (.slice a xs.length cap))
      (first | go_keep | assumption | (go_split_ands; exact ⟨e0, e1, e2, e3⟩) | (go_split_ands; exact ⟨f0, f1, f2, f3⟩))
      ((first | (go_at_call 19; refine (toView_calls num a cap xs _ l1 (by exact hx6)).mono ?_; rintro e w7 ⟨a7, cap7, rfl, ho7, hb7'⟩; have hb7 := drew_below hb7'; have s7 := s6.call hb7; have e0 := (hb7.cell (p := ⟨w4.heap.size, 0, none⟩) m0).trans k0; have e1 := (hb7.cell (p := ⟨w4.heap.size, 1, none⟩) m0).trans k1; have e2 := (hb7.cell (p := ⟨w.heap.size, 0, none⟩) m1).trans k2; have e3 := (hb7.cell (p := ⟨w.heap.size, 1, none⟩) m1).trans k3) | (go_at_call 20; refine (eqView_eq _ _ _ _ _ _ _ l2 (by exact (own_intsR s7.at1.own)) (by exact (own_intsR ho7))).mono ?_; rintro e w8 ⟨rfl, hb8⟩; have s8 := s7.call hb8; have z := hb7.size; have f0 := (hb8.cell (p := ⟨w4.heap.size, 0, none⟩) (Nat.lt_of_lt_of_le m0 z)).trans e0; have f1 := (hb8.cell (p := ⟨w4.heap.size, 1, none⟩) (Nat.lt_of_lt_of_le m0 z)).trans e1; have f2 := (hb8.cell (p := ⟨w.heap.size, 0, none⟩) (Nat.lt_of_lt_of_le m1 z)).trans e2; have f3 := (hb8.cell (p := ⟨w.heap.size, 1, none⟩) (Nat.lt_of_lt_of_le m1 z)).trans e3)))
    go_wp2_with fail
    go_ret
    exact ⟨rfl, s8.below⟩
  · unfold maxLen at hm
    go_enter Try.func4, Try.ntmps4
    go_wp2_with fail
    refine (szView_no num a xs.length cap 1048576 _ (by omega) (by omega) (by omega) (by omega)).mono ?_
    rintro e w1 ⟨rfl, hb1⟩
    have s1 := s0.call hb1
    go_wp2_with fail
    go_ret
    exact ⟨rfl, s1.below⟩

end Go.Proofs.Ytkbckgnkbnakkaa.fnExactViewValid
