
/-
  The walk of FnPlan.
-/
import Derived.Test.YtcnanhjagefmjaaX20
import Derived.Test.YtcnanhjagefmjaaX19
import Derived.Test.YtcnanhjagefmjaaX11
import Derived.Test.YtcnanhjagefmjaaHa
namespace Go.Proofs.Ytcnanhjagefmjaa.fnPlan
open Go.RowKit Go.Proofs.Ytcnanhjagefmjaa

set_option maxRecDepth 100000 in
set_option maxHeartbeats 4000000 in
theorem walk (a0 : Option Addr) (len0 cap0 : Nat) (z0 : List Int) (w : World) (w0 : IsRow .u8 w a0 len0 cap0 z0) :
    Calls Try.prog 12 #[.slice a0 len0 cap0] w fun e w' => e = .returned (.bool true) ∧ Below w.heap.size w w' := by
  have hle := w0.le
  have hby := w0.bytes
  clear w0
  by_cases hbig : len0 ≤ 1048576
  · go_enter Try.func12, Try.ntmps12
    go_wp2_with fail
    with_reducible refine (drawPlanOf_calls _ _ _ _ hle.1 hle.2 hby).mono ?_
    rintro e w1 ⟨a1, a2, a3, c1, c2, c3, ps, ss, ds, m, rfl, hp6, hs8, hd8, hm1, hm3, s1⟩
    go_wp2_with fail
    with_reducible refine (planOf_calls a1 c1 ps a2 c2 ss a3 c3 ds m w1 (by omega) (by omega) (by omega) (own_intsR s1.own) (own_intsR s1.at1.own) (own_intsR s1.at2.own)).mono ?_
    rintro e w2 ⟨b2, e2, rfl, o2, hb2⟩
    have s2 := (s1.fresh hb2 o2 (Nat.le_refl _)).to3
    clear s1 o2 hb2
    go_wp2_with fail
    with_reducible refine (specPlanOf_calls a1 c1 ps a2 c2 ss a3 c3 ds m w2 (by omega) (by omega) (by omega) (own_intsR s2.own) (own_intsR s2.at1.own) (own_intsR s2.at2.own)).mono ?_
    rintro e w3 ⟨b3, e3, rfl, o3, hb3⟩
    have s3 := s2.fresh hb3 o3 (Nat.le_refl _)
    have hlr : (planR ps ss ds m).length ≤ 48 := by
      unfold planR
      split
      · have := planL_len ss ds m ps
        omega
      · simp
    have I2 := own_cellsR s3.at4.own
    have I3 := own_cellsR s3.own
    have J1 := own_intsR s3.at1.own
    have J2 := own_intsR s3.at2.own
    have J3 := own_intsR s3.at3.own
    have SA := Lib.hid (fun W (hb : Below w3.heap.size w3 W) => sameMoves_eq b2 b3 e2 e3 (planR ps ss ds m) W (by omega) (I2.below hb) (I3.below hb))
    have B3 := s3.below
    clear s2 s3 o3 hb3 I3
    cases hok : planOk ps ss ds m with
    | false =>
      generalize (planR ps ss ds m).length = R at *
      go_wp2_with fail
      with_reducible refine (SA.out _ (Below.refl _ _)).mono ?_
      rintro e w4 ⟨rfl, hb4⟩
      go_wp2_with fail
      with_reducible refine (SA.out _ hb4).mono ?_
      rintro e w5 ⟨rfl, hb5⟩
      have FIN2 := Lib.hid ((B3.trans (hb4.mono B3.size)).trans (hb5.mono (Nat.le_trans B3.size hb4.size)))
      clear hb4 hb5
      go_wp2_with fail
      go_ret
      exact ⟨rfl, FIN2.out⟩
    | true =>
      have PR : planR ps ss ds m = planL ps ss ds m := by rw [planR, hok]; rfl
      rw [PR] at SA hlr I2
      rw [PR]
      clear PR
      have PM := Lib.hid (fun v (hv : v ∈ planL ps ss ds m) => plan_move hok hv)
      generalize planL ps ss ds m = R at *
      go_wp2_with fail
      with_reducible refine (SA.out _ (Below.refl _ _)).mono ?_
      rintro e w4 ⟨rfl, hb4⟩
      clear SA
      go_wp2_with fail
      go_loopw [11] (fun i wr => ∃ k : Nat, k ≤ R.length ∧ i = .int .i64 k ∧ Below w3.heap.size w3 wr) (fun i _ => R.length - (intOf i).toNat)
      case atStart => exact ⟨0, Nat.zero_le _, rfl, hb4⟩
      case round =>
        clear hb4
        obtain ⟨k, hk, rfl, hb5⟩ := hrel
        by_cases hlt : k < R.length
        · obtain ⟨b, off, rfl, d0, d1, d2⟩ := (I2.below hb5).move k hlt
          have HC := Lib.hid (fun (w' : World) (hb : Below wr.heap.size wr w') => (⟨(hb.cell (p := ⟨b, off + k * 3, none⟩) (lt_of_cell d0)).trans d0, (hb.cell (p := ⟨b, off + k * 3 + 1, none⟩) (lt_of_cell d1)).trans d1, (hb.cell (p := ⟨b, off + k * 3 + 2, none⟩) (lt_of_cell d2)).trans d2⟩ : _ ∧ _ ∧ _))
          have i1 : (0 : Int) ≤ (k : Int) := by omega
          have i2 : (k : Int) < (R.length : Int) := by omega
          obtain ⟨q1, q2, q3, q4, q5, q6, q7⟩ := PM.out _ (List.getElem_mem hlt)
          generalize R[k] = v at *
          obtain ⟨p, f, t⟩ := v
          dsimp only at q1 q2 q3 q4 q5 q6 q7 d0 d1 d2 HC
          go_wp2_with fail
          with_reducible refine (placeOf_calls p a2 c2 ss m wr (by omega) (J2.below hb5)).mono ?_
          rw [q1]
          rintro e w6 ⟨va, vc, rfl, o6, hb6⟩
          have hb7 := hb5.trans (hb6.mono hb5.size)
          obtain ⟨g0, g1, g2⟩ := HC.out w6 hb6
          have I6 := own_intsR o6
          have hol := placeR_len p ss m
          have H1 := Lib.hid (hasInt_yes a1 c1 ps p w6 (by omega) (J1.below hb7) q2)
          have H2 := Lib.hid (hasInt_yes va vc _ f w6 (by omega) I6 q3)
          have H3 := Lib.hid (hasInt_no a3 c3 ds f w6 (by omega) (J3.below hb7) q4)
          have H4 := Lib.hid (hasInt_no va vc _ t w6 (by omega) I6 q5)
          have H5 := Lib.hid (hasInt_no a3 c3 ds t w6 (by omega) (J3.below hb7) q6)
          have H6 := Lib.hid (hasInt_yes a2 c2 ss t w6 (by omega) (J2.below hb7) q7)
          clear o6 hb6 HC q1 q2 q3 q4 q5 q6 q7 d0 d1 d2 I6
          generalize (placeR p ss m).length = ol at *
          go_wp2_with fail
          with_reducible refine H1.out.mono ?_
          rintro e w' ⟨rfl, rfl⟩
          go_wp2_with fail
          with_reducible refine H2.out.mono ?_
          rintro e w' ⟨rfl, rfl⟩
          go_wp2_with fail
          with_reducible refine H3.out.mono ?_
          rintro e w' ⟨rfl, rfl⟩
          go_wp2_with fail
          with_reducible refine H4.out.mono ?_
          rintro e w' ⟨rfl, rfl⟩
          go_wp2_with fail
          with_reducible refine H5.out.mono ?_
          rintro e w' ⟨rfl, rfl⟩
          go_wp2_with fail
          with_reducible refine H6.out.mono ?_
          rintro e w' ⟨rfl, rfl⟩
          go_wp2_with fail
          go_roundw
          case rel => exact ⟨k + 1, hlt, by go_num, hb7⟩
          case measure => simp [intOf]; omega
        · have FIN := Lib.hid (B3.trans (hb5.mono B3.size))
          go_wp2_with fail
          go_ret
          exact ⟨rfl, FIN.out⟩
  · go_enter Try.func12, Try.ntmps12
    go_wp2_with fail
    go_ret
    exact ⟨rfl, Below.refl _ _⟩

end Go.Proofs.Ytcnanhjagefmjaa.fnPlan
