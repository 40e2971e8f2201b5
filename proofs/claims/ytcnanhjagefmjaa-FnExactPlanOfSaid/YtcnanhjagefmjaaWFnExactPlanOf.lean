
/-
  The walk of FnExactPlanOf.
-/
import Derived.Test.YtcnanhjagefmjaaX19
import Derived.Test.YtcnanhjagefmjaaE1
import Derived.Test.YtcnanhjagefmjaaEq
import Derived.Test.YtcnanhjagefmjaaMf
namespace Go.Proofs.Ytcnanhjagefmjaa.fnExactPlanOf
open Go.RowKit Go.Proofs.Ytcnanhjagefmjaa

theorem eqIntS_eq (a a' : Option Addr) (cap cap' : Nat) (xs : List Int) (w : World) (hm : xs.length ≤ 1099511627776) (hx : IntsAt w a xs) (hy : IntsAt w a' xs) :
    Calls Try.prog 18 #[.slice a xs.length cap, .slice a' xs.length cap'] w fun e w' => e = .returned (.bool true) ∧ Below w.heap.size w w' := by
  have := eqIntS_calls a a' cap cap' xs xs w hm hm hx hy
  rw [decide_eq_true rfl] at this
  exact this

set_option maxHeartbeats 8000000 in
theorem walk (a0 : Option Addr) (len0 cap0 : Nat) (z0 : List Int) (a1 : Option Addr) (len1 cap1 : Nat) (z1 : List Int) (a2 : Option Addr) (len2 cap2 : Nat) (z2 : List Int) (a3 : Int) (w : World)
    (w0 : IsRow .i64 w a0 len0 cap0 z0) (w1 : IsRow .i64 w a1 len1 cap1 z1) (w2 : IsRow .i64 w a2 len2 cap2 z2) (_ : (Lit.int .i64 a3).wf = true) :
    Calls Try.prog 11 #[.slice a0 len0 cap0, .slice a1 len1 cap1, .slice a2 len2 cap2, .int .i64 a3] w fun e w' => e = .returned (.bool true) ∧ Below w.heap.size w w' := by
  obtain ⟨ps, rfl, hp, _⟩ := w0.ints
  obtain ⟨ss, rfl, hs, _⟩ := w1.ints
  obtain ⟨ds, rfl, hd, _⟩ := w2.ints
  clear w0 w1 w2
  by_cases hl : ps.length ≤ 1048576 ∧ ss.length ≤ 1048576 ∧ ds.length ≤ 1048576
  · obtain ⟨l0, l1, l2⟩ := hl
    have m0 : ps.length ≤ 2097152 := by omega
    have m1 : ss.length ≤ 2097152 := by omega
    have m2 : ds.length ≤ 2097152 := by omega
    have n0 : ps.length ≤ 1099511627776 := by omega
    have n1 : ss.length ≤ 1099511627776 := by omega
    have n2 : ds.length ≤ 1099511627776 := by omega
    have hlr : (planR ps ss ds a3).length ≤ 96 := by
      unfold planR
      split
      · rename_i h
        have h1 := (planOk_iff.1 h).1.1
        have h2 := planL_len ss ds a3 ps
        omega
      · simp
    have IM := Lib.hid (fun W A0 C0 A1 C1 A2 C2 (h0 : IntsAt W A0 ps) (h1 : IntsAt W A1 ss) (h2 : IntsAt W A2 ds) => planOf_calls A0 C0 ps A1 C1 ss A2 C2 ds a3 W n0 n1 n2 h0 h1 h2)
    have SP := Lib.hid (fun W A0 C0 A1 C1 A2 C2 (h0 : IntsAt W A0 ps) (h1 : IntsAt W A1 ss) (h2 : IntsAt W A2 ds) => specPlanOf_calls A0 C0 ps A1 C1 ss A2 C2 ds a3 W n0 n1 n2 h0 h1 h2)
    unfold GaveMoves at IM SP
    generalize planR ps ss ds a3 = R at *
    generalize planOk ps ss ds a3 = ok at *
    cases ok
    all_goals
      have s0 := St.start w
      go_enter Try.func11, Try.ntmps11
      go_wp2_with fail
      with_reducible refine (toIntS_calls a0 cap0 ps _ m0 (hp.below s0.below)).mono ?_
      rintro e w1 ⟨b1, c1, rfl, o1, hb1⟩
      have s1 := s0.fresh hb1 o1 (Nat.le_refl _)
      clear s0 o1 hb1
      go_wp2_with fail
      with_reducible refine (toIntS_calls a1 cap1 ss _ m1 (hs.below s1.below)).mono ?_
      rintro e w2 ⟨b2, c2, rfl, o2, hb2⟩
      have s2 := s1.fresh hb2 o2 (Nat.le_refl _)
      clear s1 o2 hb2
      go_wp2_with fail
      with_reducible refine (toIntS_calls a2 cap2 ds _ m2 (hd.below s2.below)).mono ?_
      rintro e w3 ⟨b3, c3, rfl, o3, hb3⟩
      have s3 := s2.fresh hb3 o3 (Nat.le_refl _)
      clear s2 o3 hb3
      go_wp2_with fail
      with_reducible refine (SP.out _ b1 c1 b2 c2 b3 c3 (s3.intsIn (a := b1) (cap := c1) (xs := ps) (by simp) rfl) (s3.intsIn (a := b2) (cap := c2) (xs := ss) (by simp) rfl) (s3.intsIn (a := b3) (cap := c3) (xs := ds) (by simp) rfl)).mono ?_
      rintro e w4 ⟨b4, c4, rfl, o4, hb4⟩
      have s4 := s3.fresh hb4 o4 (Nat.le_refl _)
      clear s3 o4 hb4
      have s5 := s4.at3.drop
      clear s4
      go_wp2_with fail
      with_reducible refine (toIntS_calls a0 cap0 ps _ m0 (hp.below s5.below)).mono ?_
      rintro e w6 ⟨b6, c6, rfl, o6, hb6⟩
      have s6 := s5.fresh hb6 o6 (Nat.le_refl _)
      clear s5 o6 hb6
      go_wp2_with fail
      with_reducible refine (toIntS_calls a1 cap1 ss _ m1 (hs.below s6.below)).mono ?_
      rintro e w7 ⟨b7, c7, rfl, o7, hb7⟩
      have s7 := s6.fresh hb7 o7 (Nat.le_refl _)
      clear s6 o7 hb7
      go_wp2_with fail
      with_reducible refine (toIntS_calls a2 cap2 ds _ m2 (hd.below s7.below)).mono ?_
      rintro e w8 ⟨b8, c8, rfl, o8, hb8⟩
      have s8 := s7.fresh hb8 o8 (Nat.le_refl _)
      clear s7 o8 hb8
      go_wp2_with fail
      with_reducible refine (IM.out _ b6 c6 b7 c7 b8 c8 (s8.intsIn (a := b6) (cap := c6) (xs := ps) (by simp) rfl) (s8.intsIn (a := b7) (cap := c7) (xs := ss) (by simp) rfl) (s8.intsIn (a := b8) (cap := c8) (xs := ds) (by simp) rfl)).mono ?_
      rintro e w9 ⟨b9, c9, rfl, o9, hb9⟩
      have s9 := s8.fresh hb9 o9 (Nat.le_refl _)
      clear s8 o9 hb9
      go_wp2_with fail
      with_reducible refine (eqMoveS_eq b9 b4 c9 c4 R _ (by omega) (own_cellsR (s9.pull (r := row (.slice b9 R.length c9) 46 3 R.length (mcells R)) (by simp)).own) (own_cellsR (s9.pull (r := row (.slice b4 R.length c4) 46 3 R.length (mcells R)) (by simp)).own)).mono ?_
      rintro e w10 ⟨rfl, hb10⟩
      have s10 := s9.call hb10
      clear s9 hb10
      go_wp2_with fail
      with_reducible refine (toIntS_calls a0 cap0 ps _ m0 (hp.below s10.below)).mono ?_
      rintro e w11 ⟨b11, c11, rfl, o11, hb11⟩
      have s11 := s10.fresh hb11 o11 (Nat.le_refl _)
      clear s10 o11 hb11
      go_wp2_with fail
      with_reducible refine (eqIntS_eq b6 b11 c6 c11 ps _ n0 (s11.intsIn (a := b6) (cap := c6) (xs := ps) (by simp) rfl) (s11.intsIn (a := b11) (cap := c11) (xs := ps) (by simp) rfl)).mono ?_
      rintro e w12 ⟨rfl, hb12⟩
      have s12 := s11.call hb12
      clear s11 hb12
      have s13 := s12.drop
      clear s12
      go_wp2_with fail
      with_reducible refine (toIntS_calls a1 cap1 ss _ m1 (hs.below s13.below)).mono ?_
      rintro e w14 ⟨b14, c14, rfl, o14, hb14⟩
      have s14 := s13.fresh hb14 o14 (Nat.le_refl _)
      clear s13 o14 hb14
      go_wp2_with fail
      with_reducible refine (eqIntS_eq b7 b14 c7 c14 ss _ n1 (s14.intsIn (a := b7) (cap := c7) (xs := ss) (by simp) rfl) (s14.intsIn (a := b14) (cap := c14) (xs := ss) (by simp) rfl)).mono ?_
      rintro e w15 ⟨rfl, hb15⟩
      have s15 := s14.call hb15
      clear s14 hb15
      have s16 := s15.drop
      clear s15
      go_wp2_with fail
      with_reducible refine (toIntS_calls a2 cap2 ds _ m2 (hd.below s16.below)).mono ?_
      rintro e w17 ⟨b17, c17, rfl, o17, hb17⟩
      have s17 := s16.fresh hb17 o17 (Nat.le_refl _)
      clear s16 o17 hb17
      go_wp2_with fail
      with_reducible refine (eqIntS_eq b8 b17 c8 c17 ds _ n2 (s17.intsIn (a := b8) (cap := c8) (xs := ds) (by simp) rfl) (s17.intsIn (a := b17) (cap := c17) (xs := ds) (by simp) rfl)).mono ?_
      rintro e w18 ⟨rfl, hb18⟩
      have s18 := s17.call hb18
      clear s17 hb18
      have s19 := s18.drop
      clear s18
      go_wp2_with fail
      refine (markIntS_st _ _ _ 1 _ s19.at3 (by omega) (by omega) (by omega)).mono ?_
      rintro e w20 ⟨rfl, s20⟩
      clear s19
      go_wp2_with fail
      refine (markIntS_st _ _ _ _ _ s20.at3 (by omega) (by omega) (by omega)).mono ?_
      rintro e w21 ⟨rfl, s21⟩
      clear s20
      go_wp2_with fail
      refine (markIntS_st _ _ _ _ _ s21.at3 (by omega) (by omega) (by omega)).mono ?_
      rintro e w22 ⟨rfl, s22⟩
      clear s21
      have hk : ¬ (1 + (ps.length : Int) + (ss.length : Int) + (ds.length : Int)) < 0 := by omega
      go_wp2_with fail
      with_reducible refine (eqMoveS_eq b9 b4 c9 c4 R _ (by omega) (own_cellsR (s22.pull (r := row (.slice b9 R.length c9) 46 3 R.length (mcells R)) (by simp)).own) (own_cellsR (s22.pull (r := row (.slice b4 R.length c4) 46 3 R.length (mcells R)) (by simp)).own)).mono ?_
      rintro e w23 ⟨rfl, hb23⟩
      have s23 := s22.call hb23
      clear s22 hb23
      have s24 := s23.at3
      clear s23
      go_wp2_with fail
      refine (markMoveS_st _ _ _ 1 _ s24 (by omega) (by omega) (by omega)).mono ?_
      rintro e w25 ⟨rfl, s25⟩
      clear s24
      go_wp2_with fail
      with_reducible refine (heldMoveS_calls _ _ _ _ _ (own_cellsR s25.own) (by omega) (by omega) (by omega)).mono ?_
      rintro e w' ⟨rfl, rfl⟩
      have hp1 : 0 ≤ 1 + 3 * (R.length : Int) := by omega
      go_wp2_with fail
      with_reducible refine (toIntS_calls a0 cap0 ps _ m0 (hp.below s25.below)).mono ?_
      rintro e w26 ⟨b26, c26, rfl, o26, hb26⟩
      have s26 := s25.fresh hb26 o26 (Nat.le_refl _)
      clear s25 o26 hb26
      go_wp2_with fail
      with_reducible refine (toIntS_calls a1 cap1 ss _ m1 (hs.below s26.below)).mono ?_
      rintro e w27 ⟨b27, c27, rfl, o27, hb27⟩
      have s27 := s26.fresh hb27 o27 (Nat.le_refl _)
      clear s26 o27 hb27
      go_wp2_with fail
      with_reducible refine (toIntS_calls a2 cap2 ds _ m2 (hd.below s27.below)).mono ?_
      rintro e w28 ⟨b28, c28, rfl, o28, hb28⟩
      have s28 := s27.fresh hb28 o28 (Nat.le_refl _)
      clear s27 o28 hb28
      go_wp2_with fail
      with_reducible refine (IM.out _ b26 c26 b27 c27 b28 c28 (s28.intsIn (a := b26) (cap := c26) (xs := ps) (by simp) rfl) (s28.intsIn (a := b27) (cap := c27) (xs := ss) (by simp) rfl) (s28.intsIn (a := b28) (cap := c28) (xs := ds) (by simp) rfl)).mono ?_
      rintro e w29 ⟨b29, c29, rfl, o29, hb29⟩
      have s29 := s28.fresh hb29 o29 (Nat.le_refl _)
      clear s28 o29 hb29
      go_wp2_with fail
      with_reducible refine (eqMoveS_eq b29 b4 c29 c4 R _ (by omega) (own_cellsR (s29.pull (r := row (.slice b29 R.length c29) 46 3 R.length (mcells R)) (by simp)).own) (own_cellsR (s29.pull (r := row (.slice b4 R.length c4) 46 3 R.length (mcells R)) (by simp)).own)).mono ?_
      rintro e w30 ⟨rfl, hb30⟩
      have s30 := s29.call hb30
      clear s29 hb30
      go_wp2_with fail
      with_reducible refine (heldMoveS_calls _ _ _ _ _ (own_cellsR s30.at4.own) (by omega) (by omega) (by omega)).mono ?_
      rintro e w' ⟨rfl, rfl⟩
      have FIN := Lib.hid s30.below
      clear s30
      go_wp2_with fail
      go_ret
      exact ⟨rfl, FIN.out⟩
  · have hl' : 1048576 < ps.length ∨ 1048576 < ss.length ∨ 1048576 < ds.length := by omega
    by_cases k0 : 1048576 < ps.length
    · go_enter Try.func11, Try.ntmps11
      go_wp2_with fail
      go_ret
      exact ⟨rfl, Below.refl _ _⟩
    · by_cases k1 : 1048576 < ss.length
      · go_enter Try.func11, Try.ntmps11
        go_wp2_with fail
        go_ret
        exact ⟨rfl, Below.refl _ _⟩
      · have k2 : 1048576 < ds.length := by omega
        go_enter Try.func11, Try.ntmps11
        go_wp2_with fail
        go_ret
        exact ⟨rfl, Below.refl _ _⟩

end Go.Proofs.Ytcnanhjagefmjaa.fnExactPlanOf
