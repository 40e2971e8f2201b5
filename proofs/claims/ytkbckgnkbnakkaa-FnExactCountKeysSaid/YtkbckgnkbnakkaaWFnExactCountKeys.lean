/-
  The walk of FnExactCountKeys.
-/
import Derived.Test.YtkbckgnkbnakkaaU3
import Derived.Test.YtkbckgnkbnakkaaE3
import Derived.Test.YtkbckgnkbnakkaaOp3
namespace Go.Proofs.Ytkbckgnkbnakkaa.fnExactCountKeys
open Go.RowKit Go.Proofs.Ytkbckgnkbnakkaa

theorem eqIntS_eq (a a' : Option Addr) (cap cap' : Nat) (xs : List Int) (w : World) (hm : xs.length ≤ 1099511627776) (hx : IntsAt w a xs) (hy : IntsAt w a' xs) :
    Calls Try.prog 31 #[.slice a xs.length cap, .slice a' xs.length cap'] w fun e w' => e = .returned (.bool true) ∧ Below w.heap.size w w' := by
  have := eqIntS_calls a a' cap cap' xs xs w hm hm hx hy
  rw [decide_eq_true rfl] at this
  exact this

set_option maxHeartbeats 2000000 in
theorem walk (v0 : Value) (w : World) (h0 : IsUpdsV w v0) :
    Calls Try.prog 10 #[v0] w fun e w' => e = .returned (.bool true) ∧ Below w.heap.size w w' := by
  obtain ⟨a, cap, us, rfl, hc, hm, hx⟩ := h0
  by_cases hl : us.length ≤ 1048576
  · have l1 : us.length ≤ 2097152 := by omega
    have l2 : us.length ≤ 1099511627776 := by omega
    have z1 : 0 ≤ (1048576 : Int) - (us.length : Int) := by omega
    have hyl : (countsOf us).length ≤ 5 := by unfold countsOf; split <;> simp [countsTo_len]
    have hyl2 : (countsOf us).length ≤ 2097152 := by omega
    have hyl3 : (countsOf us).length ≤ 1099511627776 := by omega
    have SP := Lib.hid (fun A C W (h : UpdsAt W A us) => specCountKeys_calls A C us W l2 h)
    have IM := Lib.hid (fun A C W (h : UpdsAt W A us) => countKeys_calls A C us W l2 h)
    generalize countsOf us = ys at *
    go_enter Try.func10, Try.ntmps10
    go_wp2_with fail
    refine (szUpdateS_yes a us.length cap 1048576 _ (by omega) (by omega)).mono ?_
    rintro e w1 ⟨rfl, rfl⟩
    go_wp2_with fail
    refine (toUpdateS_calls a cap us _ l1 hx).mono ?_
    rintro e w1 ⟨a1, cap1, rfl, ho1, hb1⟩
    have s1 := (St.start w).call hb1
    go_wp2_with fail
    refine (SP.out a1 cap1 _ (own_cellsR ho1)).mono ?_
    rintro e w2 ⟨a2, cap2, rfl, ho2, hb2⟩
    have s2 := s1.fresh hb2 ho2 (Nat.le_refl _)
    clear s1 hb1 hb2 ho1 ho2
    go_wp2_with fail
    refine (toUpdateS_calls a cap us _ l1 (hx.below s2.below)).mono ?_
    rintro e w3 ⟨a3, cap3, rfl, ho3, hb3⟩
    have s3 := s2.fresh hb3 ho3 (Nat.le_refl _)
    clear s2 ho3 hb3
    go_wp2_with fail
    refine (IM.out a3 cap3 _ (own_cellsR s3.own)).mono ?_
    rintro e w4 ⟨a4, cap4, rfl, ho4, hb4⟩
    have s4 := s3.fresh hb4 ho4 (Nat.le_refl _)
    clear s3 ho4 hb4
    go_wp2_with fail
    refine (eqIntS_eq _ _ _ _ _ _ hyl3 (own_intsR s4.own) (own_intsR s4.at2.own)).mono ?_
    rintro e w5 ⟨rfl, hb5⟩
    have s5 := s4.call hb5
    clear s4 hb5
    go_wp2_with fail
    refine (toUpdateS_calls a cap us _ l1 (hx.below s5.below)).mono ?_
    rintro e w6 ⟨a6, cap6, rfl, ho6, hb6⟩
    have s6 := s5.call hb6
    go_wp2_with fail
    refine (eqUpdateS_eq _ _ _ _ _ _ l2 (own_cellsR s6.at1.own) (own_cellsR ho6)).mono ?_
    rintro e w7 ⟨rfl, hb7⟩
    have s7 := s6.call hb7
    clear s5 s6 hb6 hb7 ho6
    go_wp2_with fail
    refine (markUpdateS_st _ _ _ _ _ s7.at1 l1 (by omega) (by omega)).mono ?_
    rintro e w8 ⟨rfl, s8⟩
    have s8 := s8.at1
    clear s7
    go_wp2_with fail
    refine (eqIntS_eq _ _ _ _ _ _ hyl3 (own_intsR s8.own) (own_intsR s8.at2.own)).mono ?_
    rintro e w9 ⟨rfl, hb9⟩
    have s9 := s8.call hb9
    clear s8 hb9
    go_wp2_with fail
    refine (markIntS_st _ _ _ _ _ s9 hyl2 (by omega) (by omega)).mono ?_
    rintro e w10 ⟨rfl, s10⟩
    clear s9
    go_wp2_with fail
    refine (heldIntS_calls _ _ _ _ _ (own_cellsR s10.own) hyl2 (by omega) (by omega)).mono ?_
    rintro e w11 ⟨rfl, rfl⟩
    go_wp2_with fail
    refine (toUpdateS_calls a cap us _ l1 (hx.below s10.below)).mono ?_
    rintro e w12 ⟨a12, cap12, rfl, ho12, hb12⟩
    have s12 := s10.call hb12
    go_wp2_with fail
    refine (IM.out a12 cap12 _ (own_cellsR ho12)).mono ?_
    rintro e w13 ⟨a13, cap13, rfl, ho13, hb13⟩
    have s13 := s12.fresh hb13 ho13 (Nat.le_refl _)
    clear s10 s12 ho12 hb12 ho13 hb13
    go_wp2_with fail
    refine (eqIntS_eq _ _ _ _ _ _ hyl3 (own_intsR s13.own) (own_intsR s13.at3.own)).mono ?_
    rintro e w14 ⟨rfl, hb14⟩
    have s14 := s13.call hb14
    clear s13 hb14
    go_wp2_with fail
    refine (heldIntS_calls _ _ _ _ _ (own_cellsR s14.at1.own) hyl2 (by omega) (by omega)).mono ?_
    rintro e w15 ⟨rfl, rfl⟩
    go_wp2_with fail
    go_ret
    exact ⟨rfl, s14.below⟩
  · unfold maxLen at hm
    go_enter Try.func10, Try.ntmps10
    go_wp2_with fail
    refine (szUpdateS_no a us.length cap 1048576 _ (by omega) (by omega) (by omega) (by omega)).mono ?_
    rintro e w1 ⟨rfl, rfl⟩
    go_wp2_with fail
    go_ret
    exact ⟨rfl, Below.refl _ _⟩

end Go.Proofs.Ytkbckgnkbnakkaa.fnExactCountKeys
