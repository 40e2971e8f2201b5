
/-
  The walk of FnPlanNone.
-/
import Derived.Test.YtcnanhjagefmjaaX20
import Derived.Test.YtcnanhjagefmjaaX19
import Derived.Test.YtcnanhjagefmjaaX11
import Derived.Test.YtcnanhjagefmjaaHa
namespace Go.Proofs.Ytcnanhjagefmjaa.fnPlanNone
open Go.RowKit Go.Proofs.Ytcnanhjagefmjaa

set_option maxHeartbeats 4000000 in
theorem walk (a0 : Option Addr) (len0 cap0 : Nat) (z0 : List Int) (w : World) (w0 : IsRow .u8 w a0 len0 cap0 z0) :
    Calls Try.prog 9 #[.slice a0 len0 cap0] w fun e w' => e = .returned (.bool true) ∧ Below w.heap.size w w' := by
  have hle := w0.le
  have hby := w0.bytes
  clear w0
  by_cases hbig : len0 ≤ 1048576
  · go_enter Try.func9, Try.ntmps9
    go_wp2_with fail
    with_reducible refine (drawPlanOf_calls _ _ _ _ hle.1 hle.2 hby).mono ?_
    rintro e w1 ⟨a1, a2, a3, c1, c2, c3, ps, ss, ds, m, rfl, hp6, hs8, hd8, hm1, hm3, s1⟩
    go_wp2_with fail
    with_reducible refine (planOf_calls a1 c1 ps a2 c2 ss a3 c3 ds m w1 (by omega) (by omega) (by omega) (own_intsR s1.own) (own_intsR s1.at1.own) (own_intsR s1.at2.own)).mono ?_
    rintro e w2 ⟨b2, e2, rfl, o2, hb2⟩
    have s2 := (s1.fresh hb2 o2 (Nat.le_refl _)).to3
    clear s1 o2 hb2
    go_wp2_with fail
    with_reducible refine (specPlanOf_calls a1 c1 ps a2 c2 ss a3 c3 ds m w2 (by omega) (by omega) (by omega) (own_intsR s2.own) (own_intsR s2.at1.own) (own_intsR s2.at2.own)).mono ?_
    rintro e w3 ⟨b3, e3, rfl, o3, hb3⟩
    have s3 := s2.fresh hb3 o3 (Nat.le_refl _)
    have hlr : (planR ps ss ds m).length ≤ 48 := by
      unfold planR
      split
      · have := planL_len ss ds m ps
        omega
      · simp
    have I2 := own_cellsR s3.at4.own
    have I3 := own_cellsR s3.own
    have J1 := own_intsR s3.at1.own
    have J2 := own_intsR s3.at2.own
    have J3 := own_intsR s3.at3.own
    have SA := Lib.hid (fun W (hb : Below w3.heap.size w3 W) => sameMoves_eq b2 b3 e2 e3 (planR ps ss ds m) W (by omega) (I2.below hb) (I3.below hb))
    have B3 := s3.below
    clear s2 s3 o3 hb3 I3
    cases hok : planOk ps ss ds m with
    | false =>
      generalize (planR ps ss ds m).length = R at *
      go_wp2_with fail
      with_reducible refine (SA.out _ (Below.refl _ _)).mono ?_
      rintro e w4 ⟨rfl, hb4⟩
      go_wp2_with fail
      with_reducible refine (SA.out _ hb4).mono ?_
      rintro e w5 ⟨rfl, hb5⟩
      have FIN2 := Lib.hid ((B3.trans (hb4.mono B3.size)).trans (hb5.mono (Nat.le_trans B3.size hb4.size)))
      clear hb4 hb5
      go_wp2_with fail
      go_ret
      exact ⟨rfl, FIN2.out⟩
    | true =>
      have PR : planR ps ss ds m = planL ps ss ds m := by rw [planR, hok]; rfl
      rw [PR] at SA hlr I2
      rw [PR]
      clear PR
      have PN := plan_none hok
      generalize planL ps ss ds m = R at *
      have sE := ((St.start w3).alloc (.cells #[] 3)).madeRow 1 0 rfl (by simp [maxLen]) 0 (Nat.le_refl _)
      have NC := Lib.hid (fun W (hb : Below w3.heap.size w3 W) A C (hA : IntsAt W A []) => planOf_calls a1 c1 ps a2 c2 ss A C [] m W (by omega) (by omega) (by simp) (J1.below hb) (J2.below hb) hA)
      unfold GaveMoves planR at NC
      rw [PN.1, PN.2] at NC
      simp only [if_true, List.length_nil] at NC
      clear sE PN
      go_wp2_with fail
      with_reducible refine (SA.out _ (Below.refl _ _)).mono ?_
      rintro e w4 ⟨rfl, hb4⟩
      clear SA
      have hb5 := hb4.alloc hb4.size (.cells #[] 3)
      go_wp2_with fail
      refine (NC.out _ hb5 (some ⟨w4.heap.size, 0, none⟩) 0 (.inl rfl)).mono ?_
      rintro e w6 ⟨na, nc, rfl, _, hb6⟩
      have FIN := Lib.hid (B3.trans ((hb5.trans (hb6.mono hb5.size)).mono B3.size))
      clear hb4 hb5 hb6
      go_wp2_with fail
      go_ret
      exact ⟨rfl, FIN.out⟩
  · go_enter Try.func9, Try.ntmps9
    go_wp2_with fail
    go_ret
    exact ⟨rfl, Below.refl _ _⟩

end Go.Proofs.Ytcnanhjagefmjaa.fnPlanNone
