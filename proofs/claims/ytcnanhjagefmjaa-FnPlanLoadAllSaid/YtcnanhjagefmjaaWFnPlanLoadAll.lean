
/-
  The walk of FnPlanLoadAll.
-/
import Derived.Test.YtcnanhjagefmjaaX20
import Derived.Test.YtcnanhjagefmjaaX21
import Derived.Test.YtcnanhjagefmjaaX11
import Derived.Test.YtcnanhjagefmjaaHa
namespace Go.Proofs.Ytcnanhjagefmjaa.fnPlanLoadAll
open Go.RowKit Go.Proofs.Ytcnanhjagefmjaa

set_option maxRecDepth 100000 in
set_option maxHeartbeats 4000000 in
theorem walk (a0 : Option Addr) (len0 cap0 : Nat) (z0 : List Int) (w : World) (w0 : IsRow .u8 w a0 len0 cap0 z0) :
    Calls Try.prog 14 #[.slice a0 len0 cap0] w fun e w' => e = .returned (.bool true) ∧ Below w.heap.size w w' := by
  have hle := w0.le
  have hby := w0.bytes
  clear w0
  by_cases hbig : len0 ≤ 1048576
  · go_enter Try.func14, Try.ntmps14
    go_wp2_with fail
    with_reducible refine (drawPlanOf_calls _ _ _ _ hle.1 hle.2 hby).mono ?_
    rintro e w1 ⟨a1, a2, a3, c1, c2, c3, ps, ss, ds, m, rfl, hp6, hs8, hd8, hm1, hm3, s1⟩
    go_wp2_with fail
    with_reducible refine (planOf_calls a1 c1 ps a2 c2 ss a3 c3 ds m w1 (by omega) (by omega) (by omega) (own_intsR s1.own) (own_intsR s1.at1.own) (own_intsR s1.at2.own)).mono ?_
    rintro e w2 ⟨b2, e2, rfl, o2, hb2⟩
    have s2 := (s1.fresh hb2 o2 (Nat.le_refl _)).to3
    clear s1 o2 hb2
    go_wp2_with fail
    with_reducible refine (specPlanOf_calls a1 c1 ps a2 c2 ss a3 c3 ds m w2 (by omega) (by omega) (by omega) (own_intsR s2.own) (own_intsR s2.at1.own) (own_intsR s2.at2.own)).mono ?_
    rintro e w3 ⟨b3, e3, rfl, o3, hb3⟩
    have s3 := s2.fresh hb3 o3 (Nat.le_refl _)
    have hlr : (planR ps ss ds m).length ≤ 48 := by
      unfold planR
      split
      · have := planL_len ss ds m ps
        omega
      · simp
    have I2 := own_cellsR s3.at4.own
    have I3 := own_cellsR s3.own
    have J1 := own_intsR s3.at1.own
    have J2 := own_intsR s3.at2.own
    have J3 := own_intsR s3.at3.own
    have SA := Lib.hid (fun W (hb : Below w3.heap.size w3 W) => sameMoves_eq b2 b3 e2 e3 (planR ps ss ds m) W (by omega) (I2.below hb) (I3.below hb))
    have B3 := s3.below
    clear s2 s3 o3 hb3 I3
    cases hok : planOk ps ss ds m with
    | false =>
      generalize (planR ps ss ds m).length = R at *
      go_wp2_with fail
      with_reducible refine (SA.out _ (Below.refl _ _)).mono ?_
      rintro e w4 ⟨rfl, hb4⟩
      go_wp2_with fail
      with_reducible refine (SA.out _ hb4).mono ?_
      rintro e w5 ⟨rfl, hb5⟩
      have FIN2 := Lib.hid ((B3.trans (hb4.mono B3.size)).trans (hb5.mono (Nat.le_trans B3.size hb4.size)))
      clear hb4 hb5
      go_wp2_with fail
      go_ret
      exact ⟨rfl, FIN2.out⟩
    | true =>
      have PR : planR ps ss ds m = planL ps ss ds m := by rw [planR, hok]; rfl
      rw [PR] at SA hlr I2
      rw [PR]
      clear PR
      have PM : loadSum (goneP ss ds) (planL ps ss ds m) = (planL ps ss ds m).length := load_all ((asc_nodup (planOk_iff.1 hok).2.1.2).sublist List.filter_sublist) _ (fun v hv => mem_goneP.2 ⟨(plan_move hok hv).2.2.2.2.2.2, (plan_move hok hv).2.2.2.2.2.1⟩)
      have PMH := Lib.hid PM
      clear PM
      generalize planL ps ss ds m = R at *
      go_wp2_with fail
      with_reducible refine (SA.out _ (Below.refl _ _)).mono ?_
      rintro e w4 ⟨rfl, hb4⟩
      clear SA
      go_wp2_with fail
      go_loopw [11, 12] (fun l i wr => ∃ k : Nat, k ≤ ss.length ∧ i = .int .i64 k ∧ l = .int .i64 (loadSum (goneP (ss.take k) ds) R) ∧ Below w3.heap.size w3 wr) (fun _ i _ => ss.length - (intOf i).toNat)
      case atStart => exact ⟨0, Nat.zero_le _, rfl, rfl, hb4⟩
      case round =>
        clear hb4
        obtain ⟨k, hk, rfl, rfl, hb5⟩ := hrel
        by_cases hlt : k < ss.length
        · rcases J2.below hb5 with rfl | ⟨bk, off, rfl, hc⟩
          · simp at hlt
          have hcell : wr.cell? ⟨bk, off + k, none⟩ = some (.int .i64 ss[k]) := by
            have := hc k hlt
            simpa [hlt] using this
          have i1 : (0 : Int) ≤ (k : Int) := by omega
          have i2 : (k : Int) < (ss.length : Int) := by omega
          have TS := Lib.hid (take_snocI hlt)
          have hsl : loadSum (goneP (ss.take k) ds) R ≤ 384 := by
            have h1 := loadSum_le R (goneP (ss.take k) ds)
            have h2 := goneP_len (ss.take k) ds
            rw [List.length_take] at h2
            have h3 : (goneP (ss.take k) ds).length * R.length ≤ 8 * 48 := Nat.mul_le_mul (by omega) hlr
            omega
          have PLD := Lib.hid (planLoad_calls b2 e2 R ss[k] wr (by omega) (I2.below hb5))
          have hll := loadOf_le R ss[k]
          have HA1 := hasInt_calls a3 c3 ds ss[k] wr (by omega) (J3.below hb5)
          clear hc
          generalize ss[k] = x at *
          by_cases hin : x ∈ ds
          · rw [decide_eq_true hin] at HA1
            have HA := Lib.hid HA1
            have GO := Lib.hid (show loadSum (goneP (ss.take (k + 1)) ds) R = loadSum (goneP (ss.take k) ds) R by rw [TS.out, goneP_snoc_in hin])
            clear hin HA1
            generalize loadSum (goneP (ss.take k) ds) R = L at *
            go_wp2_with fail
            with_reducible refine HA.out.mono ?_
            rintro e w' ⟨rfl, rfl⟩
            go_wp2_with fail
            go_roundw
            case rel => exact ⟨k + 1, hlt, by go_num, by rw [GO.out], hb5⟩
            case measure => simp [intOf]; omega
          · rw [decide_eq_false hin] at HA1
            have HA := Lib.hid HA1
            have GO := Lib.hid (show loadSum (goneP (ss.take (k + 1)) ds) R = loadSum (goneP (ss.take k) ds) R + loadOf R x by rw [TS.out, goneP_snoc_out hin, loadSum_snoc])
            clear hin HA1
            generalize loadSum (goneP (ss.take k) ds) R = L at *
            generalize loadOf R x = Q at *
            go_wp2_with fail
            with_reducible refine HA.out.mono ?_
            rintro e w' ⟨rfl, rfl⟩
            go_wp2_with fail
            with_reducible refine PLD.out.mono ?_
            rintro e w6 ⟨rfl, hb6⟩
            have hb7 := hb5.trans (hb6.mono hb5.size)
            clear hb6
            go_wp2_with fail
            go_roundw
            case rel => exact ⟨k + 1, hlt, by go_num, by rw [GO.out]; go_num, hb7⟩
            case measure => simp [intOf]; omega
        · rw [List.take_of_length_le (by omega), PMH.out]
          have FIN := Lib.hid (B3.trans (hb5.mono B3.size))
          go_wp2_with fail
          go_ret
          exact ⟨rfl, FIN.out⟩
  · go_enter Try.func14, Try.ntmps14
    go_wp2_with fail
    go_ret
    exact ⟨rfl, Below.refl _ _⟩

end Go.Proofs.Ytcnanhjagefmjaa.fnPlanLoadAll
