
/-
  The walk of FnExactPlaceMoved.
-/
import Derived.Test.YtcnanhjagefmjaaX9
import Derived.Test.YtcnanhjagefmjaaE1
import Derived.Test.YtcnanhjagefmjaaEq
namespace Go.Proofs.Ytcnanhjagefmjaa.fnExactPlaceMoved
open Go.RowKit Go.Proofs.Ytcnanhjagefmjaa

theorem eqIntS_eq (a a' : Option Addr) (cap cap' : Nat) (xs : List Int) (w : World) (hm : xs.length ≤ 1099511627776) (hx : IntsAt w a xs) (hy : IntsAt w a' xs) :
    Calls Try.prog 18 #[.slice a xs.length cap, .slice a' xs.length cap'] w fun e w' => e = .returned (.bool true) ∧ Below w.heap.size w w' := by
  have := eqIntS_calls a a' cap cap' xs xs w hm hm hx hy
  rw [decide_eq_true rfl] at this
  exact this

set_option maxHeartbeats 4000000 in
theorem walk (a0 : Int) (a1 : Option Addr) (len1 cap1 : Nat) (z1 : List Int) (a2 : Option Addr) (len2 cap2 : Nat) (z2 : List Int) (a3 : Int) (w : World)
    (_ : (Lit.int .i64 a0).wf = true) (w1 : IsRow .i64 w a1 len1 cap1 z1) (w2 : IsRow .i64 w a2 len2 cap2 z2) (_ : (Lit.int .i64 a3).wf = true) :
    Calls Try.prog 3 #[.int .i64 a0, .slice a1 len1 cap1, .slice a2 len2 cap2, .int .i64 a3] w fun e w' => e = .returned (.bool true) ∧ Below w.heap.size w w' := by
  obtain ⟨xs, rfl, hx, _⟩ := w1.ints
  obtain ⟨ys, rfl, hy, _⟩ := w2.ints
  clear w1 w2
  by_cases hl : xs.length ≤ 1048576
  · by_cases hl2 : ys.length ≤ 1048576
    · have l1 : xs.length ≤ 2097152 := by omega
      have l2 : xs.length ≤ 1099511627776 := by omega
      have l3 : ys.length ≤ 2097152 := by omega
      have l4 : ys.length ≤ 1099511627776 := by omega
      go_enter Try.func3, Try.ntmps3
      go_wp2_with fail
      with_reducible refine (toIntS_calls a1 cap1 xs w l1 hx).mono ?_
      rintro e w1 ⟨b1, c1, rfl, o1, hb1⟩
      have s1 := (St.start w).fresh hb1 o1 (Nat.le_refl _)
      go_wp2_with fail
      with_reducible refine (toIntS_calls a2 cap2 ys w1 l3 (hy.below hb1)).mono ?_
      rintro e w2 ⟨b2, c2, rfl, o2, hb2⟩
      have s2 := s1.fresh hb2 o2 (Nat.le_refl _)
      go_wp2_with fail
      with_reducible refine (specPlaceMoved_calls a0 b1 c1 xs b2 c2 ys a3 w2 l2 l4 (own_intsR s2.at1.own) (own_intsR s2.own)).mono ?_
      rintro e w3 ⟨rfl, hb3⟩
      have s3 := (s2.drop.drop).call hb3
      clear s1 s2 o1 o2 hb1 hb2 hb3
      go_wp2_with fail
      with_reducible refine (toIntS_calls a1 cap1 xs w3 l1 (hx.below s3.below)).mono ?_
      rintro e w4 ⟨b4, c4, rfl, o4, hb4⟩
      have s4 := s3.fresh hb4 o4 (Nat.le_refl _)
      go_wp2_with fail
      with_reducible refine (toIntS_calls a2 cap2 ys w4 l3 (hy.below s4.below)).mono ?_
      rintro e w5 ⟨b5, c5, rfl, o5, hb5⟩
      have s5 := s4.fresh hb5 o5 (Nat.le_refl _)
      clear s3 s4 o4 o5 hb4 hb5
      go_wp2_with fail
      with_reducible refine (placeMoved_calls a0 b4 c4 xs b5 c5 ys a3 w5 l2 l4 (own_intsR s5.at1.own) (own_intsR s5.own)).mono ?_
      rintro e w6 ⟨rfl, hb6⟩
      have s6 := s5.call hb6
      clear s5 hb6
      generalize movedR a0 xs ys a3 = r at *
      go_wp2_with fail
      with_reducible refine (toIntS_calls a1 cap1 xs w6 l1 (hx.below s6.below)).mono ?_
      rintro e w7 ⟨b7, c7, rfl, o7, hb7⟩
      have s7 := s6.fresh hb7 o7 (Nat.le_refl _)
      clear s6 o7 hb7
      go_wp2_with fail
      with_reducible refine (eqIntS_eq b4 b7 c4 c7 xs w7 l2 (own_intsR s7.at2.own) (own_intsR s7.own)).mono ?_
      rintro e w8 ⟨rfl, hb8⟩
      have s8 := s7.call hb8
      clear s7 hb8
      go_wp2_with fail
      with_reducible refine (toIntS_calls a2 cap2 ys w8 l3 (hy.below s8.below)).mono ?_
      rintro e w9 ⟨b9, c9, rfl, o9, hb9⟩
      have s9 := s8.fresh hb9 o9 (Nat.le_refl _)
      clear s8 o9 hb9
      go_wp2_with fail
      with_reducible refine (eqIntS_eq b5 b9 c5 c9 ys w9 l4 (own_intsR s9.at2.own) (own_intsR s9.own)).mono ?_
      rintro e wa ⟨rfl, hba⟩
      have sa := s9.call hba
      clear s9 hba
      go_wp2_with fail
      go_ret
      exact ⟨rfl, sa.below⟩
    · go_enter Try.func3, Try.ntmps3
      go_wp2_with fail
      go_ret
      exact ⟨rfl, Below.refl _ _⟩
  · go_enter Try.func3, Try.ntmps3
    go_wp2_with fail
    go_ret
    exact ⟨rfl, Below.refl _ _⟩

end Go.Proofs.Ytcnanhjagefmjaa.fnExactPlaceMoved
