/-
  The walk of FnExactBaseOld.
-/
import Derived.Test.YtgdbphgcpcihcaaB4
import Derived.Test.YtgdbphgcpcihcaaE3
import Derived.Test.YtgdbphgcpcihcaaE5
import Derived.Test.YtgdbphgcpcihcaaOp3
import Derived.Test.YtgdbphgcpcihcaaOp4
import Derived.Test.YtgdbphgcpcihcaaOc
import Derived.Deep.RegionHeld3
namespace Go.Proofs.Ytgdbphgcpcihcaa.fnExactBaseOld
open Go.RowKit Go.Proofs.Ytgdbphgcpcihcaa

set_option maxHeartbeats 4000000 in
theorem walk (v0 v1 : Value) (w : World) (h0 : IsBaseV w v0) (h1 : IsUpdsV w v1) :
    Calls Try.prog 6 #[v0, v1] w fun e w' => e = .returned (.bool true) ∧ Below w.heap.size w w' := by
  obtain ⟨many, u, rfl, hfit, a, cap, s, rfl, hc, hm, hx⟩ := h0
  obtain ⟨b, capb, us, rfl, hcb, hmb, hy⟩ := h1
  clear hfit
  unfold maxLen at hm hmb
  have s0 := (St.start w).alloc (.cells #[.int .i64 many, .slice a s.length cap] 43)
  by_cases hl : s.length ≤ 1048576
  · have z1 : 0 ≤ (1048576 : Int) - (s.length : Int) := by omega
    by_cases hlu : us.length ≤ 1048576 - s.length
    · have l1 : s.length ≤ 2097152 := by omega
      have l2 : s.length ≤ 1099511627776 := by omega
      have m1 : us.length ≤ 2097152 := by omega
      have m2 : us.length ≤ 1099511627776 := by omega
      have z2 : 0 ≤ (1048576 : Int) - (s.length : Int) - (us.length : Int) := by omega
      have SP := Lib.hid (fun A B C D W h1 h2 => specBaseOld_calls A B C D many s us W l2 m2 h1 h2)
      have IM := Lib.hid (fun A B C D W h1 h2 h3 => baseOld_calls A B C D many s us W l2 m2 h1 h2 h3)
      generalize oldOf many s us = old at *
      go_enter Try.func6, Try.ntmps6
      go_wp2_with fail
      refine (szBase_yes many a s.length cap 1048576 _ (by omega) (by omega)).mono ?_
      rintro e w1 ⟨rfl, hb1⟩
      have s1 := s0.call hb1
      obtain ⟨c1, _⟩ := s1.cells
      clear s0 hb1
      go_wp2_with fail
      refine (szUpdateS_yes b us.length capb _ _ (by omega) (by omega)).mono ?_
      rintro e w1' ⟨rfl, rfl⟩
      go_wp2_with fail
      refine (toBase_calls many a cap s _ l1 (hx.below s1.below)).mono ?_
      rintro e w2 ⟨a2, cap2, rfl, ho2, hb2⟩
      have s2 := s1.fresh hb2 ho2 (Nat.le_refl _)
      go_wp2_with fail
      refine (toUpdateS_calls b capb us _ m1 (hy.below s2.below)).mono ?_
      rintro e w3 ⟨a3, cap3, rfl, ho3, hb3⟩
      have s3 := s2.fresh hb3 ho3 (Nat.le_refl _)
      clear s1 s2 hb2 hb3 ho2 ho3 c1
      go_wp2_with fail
      refine (SP.out a2 a3 cap2 cap3 _ (own_intsR s3.at1.own) (own_cellsR s3.own)).mono ?_
      rintro e w4 ⟨rfl, hb4⟩
      have s4 := (s3.call hb4).drop.drop
      obtain ⟨c4, _⟩ := s4.cells
      clear s3 hb4
      go_wp2_with fail
      refine (toBase_calls many a cap s _ l1 (hx.below s4.below)).mono ?_
      rintro e w5 ⟨a5, cap5, rfl, ho5, hb5⟩
      have s5 := (s4.fresh hb5 ho5 (Nat.le_refl _)).alloc (.cells #[.int .i64 many, .slice a5 s.length cap5] 29)
      clear s4 ho5 hb5 c4
      go_wp2_with fail
      refine (toUpdateS_calls b capb us _ m1 (hy.below s5.below)).mono ?_
      rintro e w6 ⟨a6, cap6, rfl, ho6, hb6⟩
      have s6 := s5.fresh hb6 ho6 (Nat.le_refl _)
      obtain ⟨c6, _⟩ := s6.at1.cells
      clear s5 ho6 hb6
      go_wp2_with fail
      refine (IM.out a5 a6 cap5 cap6 _ (own_cap s6.own) (own_intsR s6.at2.own) (own_cellsR s6.own)).mono ?_
      rintro e w7 ⟨rfl, hb7⟩
      have s7 := (s6.call hb7).at1
      have k0 := s7.cells.1 0
      have k1 := s7.cells.1 1
      have k2 := s7.at3.cells.1 0
      have k3 := s7.at3.cells.1 1
      simp at k0 k1 k2 k3
      have p0 := s7.lt.2
      have p1 := s7.at3.lt.2
      have hx7 := hx.below s7.below
      clear s6 hb7 c6
      go_wp2_with fail
      go_region_held3 (fun w' => w'.cell? ⟨w5.heap.size, 0, none⟩ = some (.int .i64 many) ∧ w'.cell? ⟨w5.heap.size, 1, none⟩ = some (.slice a5 s.length cap5) ∧ w'.cell? ⟨w.heap.size, 0, none⟩ = some (.int .i64 many) ∧ w'.cell? ⟨w.heap.size, 1, none⟩ = some (.slice a s.length cap))
        (first | go_keep | assumption | (go_split_ands; exact ⟨e0, e1, e2, e3⟩) | (go_split_ands; exact ⟨f0, f1, f2, f3⟩))
        ((first | (go_at_call 27; refine (toBase_calls many a cap s _ l1 (by exact hx7)).mono ?_; rintro e w8 ⟨a8, cap8, rfl, ho8, hb8'⟩; have hb8 := drew_below hb8'; have s8 := s7.call hb8; have e0 := (hb8.cell (p := ⟨w5.heap.size, 0, none⟩) p0).trans k0; have e1 := (hb8.cell (p := ⟨w5.heap.size, 1, none⟩) p0).trans k1; have e2 := (hb8.cell (p := ⟨w.heap.size, 0, none⟩) p1).trans k2; have e3 := (hb8.cell (p := ⟨w.heap.size, 1, none⟩) p1).trans k3) | (go_at_call 29; refine (eqBase_eq _ _ _ _ _ _ _ l2 (by exact (own_intsR s8.drop.drop.own)) (by exact (own_intsR ho8))).mono ?_; rintro e w9 ⟨rfl, hb9⟩; have s9 := s8.call hb9; have z := hb8.size; have f0 := (hb9.cell (p := ⟨w5.heap.size, 0, none⟩) (Nat.lt_of_lt_of_le p0 z)).trans e0; have f1 := (hb9.cell (p := ⟨w5.heap.size, 1, none⟩) (Nat.lt_of_lt_of_le p0 z)).trans e1; have f2 := (hb9.cell (p := ⟨w.heap.size, 0, none⟩) (Nat.lt_of_lt_of_le p1 z)).trans e2; have f3 := (hb9.cell (p := ⟨w.heap.size, 1, none⟩) (Nat.lt_of_lt_of_le p1 z)).trans e3)))
      clear s7 s8 hb8 hb8' hb9 ho8 k0 k1 k2 k3 e0 e1 e2 e3 f0 f1 f2 f3
      go_wp2_with fail
      refine (toUpdateS_calls b capb us _ m1 (hy.below s9.below)).mono ?_
      rintro e w10 ⟨a10, cap10, rfl, ho10, hb10⟩
      have s10 := s9.call hb10
      go_wp2_with fail
      refine (eqUpdateS_eq _ _ _ _ _ _ m2 (own_cellsR s10.at1.own) (own_cellsR ho10)).mono ?_
      rintro e w11 ⟨rfl, hb11⟩
      have s11 := s10.call hb11
      go_wp2_with fail
      go_ret
      exact ⟨rfl, s11.below⟩
    · go_enter Try.func6, Try.ntmps6
      go_wp2_with fail
      refine (szBase_yes many a s.length cap 1048576 _ (by omega) (by omega)).mono ?_
      rintro e w1 ⟨rfl, hb1⟩
      have s1 := s0.call hb1
      go_wp2_with fail
      refine (szUpdateS_no b us.length capb _ _ (by omega) (by omega) (by omega) (by omega)).mono ?_
      rintro e w1' ⟨rfl, rfl⟩
      go_wp2_with fail
      go_ret
      exact ⟨rfl, s1.below⟩
  · go_enter Try.func6, Try.ntmps6
    go_wp2_with fail
    refine (szBase_no many a s.length cap 1048576 _ (by omega) (by omega) (by omega) (by omega)).mono ?_
    rintro e w1 ⟨rfl, hb1⟩
    have s1 := s0.call hb1
    go_wp2_with fail
    go_ret
    exact ⟨rfl, s1.below⟩

end Go.Proofs.Ytgdbphgcpcihcaa.fnExactBaseOld
