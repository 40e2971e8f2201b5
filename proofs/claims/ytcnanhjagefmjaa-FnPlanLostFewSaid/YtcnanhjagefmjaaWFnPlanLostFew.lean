
/-
  The walk of FnPlanLostFew.
-/
import Derived.Test.YtcnanhjagefmjaaX16
import Derived.Test.YtcnanhjagefmjaaX11
import Derived.Test.YtcnanhjagefmjaaSi
namespace Go.Proofs.Ytcnanhjagefmjaa.fnPlanLostFew
open Go.RowKit Go.Proofs.Ytcnanhjagefmjaa

set_option maxHeartbeats 4000000 in
theorem walk (a0 : Option Addr) (len0 cap0 : Nat) (z0 : List Int) (w : World) (w0 : IsRow .u8 w a0 len0 cap0 z0) :
    Calls Try.prog 7 #[.slice a0 len0 cap0] w fun e w' => e = .returned (.bool true) ∧ Below w.heap.size w w' := by
  have hle := w0.le
  have hby := w0.bytes
  clear w0
  by_cases hbig : len0 ≤ 1048576
  · go_enter Try.func7, Try.ntmps7
    go_wp2_with fail
    with_reducible refine (drawPlanLost_calls _ _ _ _ hle.1 hle.2 hby).mono ?_
    rintro e w1 ⟨a1, a2, a3, c1, c2, c3, ps, ss, ds, m, rfl, hp6, hs8, hd8, hm1, hm3, s1⟩
    go_wp2_with fail
    with_reducible refine (planLost_calls a1 c1 ps a2 c2 ss a3 c3 ds m w1 (by omega) (by omega) (by omega) (own_intsR s1.own) (own_intsR s1.at1.own) (own_intsR s1.at2.own)).mono ?_
    rintro e w2 ⟨b2, e2, rfl, o2, hb2⟩
    have s2 := (s1.fresh hb2 o2 (Nat.le_refl _)).to3
    clear s1 o2 hb2
    go_wp2_with fail
    with_reducible refine (specPlanLost_calls a1 c1 ps a2 c2 ss a3 c3 ds m w2 (by omega) (by omega) (by omega) (own_intsR s2.own) (own_intsR s2.at1.own) (own_intsR s2.at2.own)).mono ?_
    rintro e w3 ⟨b3, e3, rfl, o3, hb3⟩
    have s3 := s2.fresh hb3 o3 (Nat.le_refl _)
    have hlr : (lostR ps ss ds m).length ≤ 1048576 := by
      unfold lostR
      split
      · exact Nat.le_trans (lostL_len _ _ _ _) (by omega)
      · simp
    have I2 := own_intsR s3.at4.own
    have I3 := own_intsR s3.own
    have SA := Lib.hid (fun W (hb : Below w3.heap.size w3 W) => sameInts_eq b2 b3 e2 e3 (lostR ps ss ds m) W (by omega) (I2.below hb) (I3.below hb))
    have FIN := Lib.hid s3.below
    clear s2 s3 o3 hb3 I2 I3
    cases hok : planOk ps ss ds m with
    | false =>
      generalize (lostR ps ss ds m).length = R at *
      go_wp2_with fail
      with_reducible refine (SA.out _ (Below.refl _ _)).mono ?_
      rintro e w4 ⟨rfl, hb4⟩
      go_wp2_with fail
      with_reducible refine (SA.out _ hb4).mono ?_
      rintro e w5 ⟨rfl, hb5⟩
      have FIN2 := Lib.hid ((FIN.out.trans (hb4.mono FIN.out.size)).trans (hb5.mono (Nat.le_trans FIN.out.size hb4.size)))
      clear hb4 hb5
      go_wp2_with fail
      go_ret
      exact ⟨rfl, FIN2.out⟩
    | true =>
      by_cases hd : (ds.length : Int) < m
      · have LF : (lostR ps ss ds m).length = 0 := by rw [lostR, hok, if_pos rfl, lost_few hok hd]; rfl
        rw [LF] at SA
        rw [LF]
        have hd' : decide (m ≤ (ds.length : Int)) = false := decide_eq_false (by omega)
        go_wp2_with fail
        with_reducible refine (SA.out _ (Below.refl _ _)).mono ?_
        rintro e w4 ⟨rfl, hb4⟩
        have FIN2 := Lib.hid (FIN.out.trans (hb4.mono FIN.out.size))
        clear hb4
        go_wp2_with fail
        go_ret
        exact ⟨rfl, FIN2.out⟩
      · have hd' : decide (m ≤ (ds.length : Int)) = true := decide_eq_true (by omega)
        generalize (lostR ps ss ds m).length = R at *
        go_wp2_with fail
        with_reducible refine (SA.out _ (Below.refl _ _)).mono ?_
        rintro e w4 ⟨rfl, hb4⟩
        have FIN2 := Lib.hid (FIN.out.trans (hb4.mono FIN.out.size))
        clear hb4
        go_wp2_with fail
        go_ret
        exact ⟨rfl, FIN2.out⟩
  · go_enter Try.func7, Try.ntmps7
    go_wp2_with fail
    go_ret
    exact ⟨rfl, Below.refl _ _⟩

end Go.Proofs.Ytcnanhjagefmjaa.fnPlanLostFew
