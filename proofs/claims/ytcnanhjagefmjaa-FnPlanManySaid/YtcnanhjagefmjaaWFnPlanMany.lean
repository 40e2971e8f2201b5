
/-
  The walk of FnPlanMany.
-/
import Derived.Test.YtcnanhjagefmjaaX22
import Derived.Test.YtcnanhjagefmjaaX19
import Derived.Test.YtcnanhjagefmjaaX11
import Derived.Test.YtcnanhjagefmjaaHa
namespace Go.Proofs.Ytcnanhjagefmjaa.fnPlanMany
open Go.RowKit Go.Proofs.Ytcnanhjagefmjaa

set_option maxRecDepth 100000 in
set_option maxHeartbeats 4000000 in
theorem walk (a0 : Option Addr) (len0 cap0 : Nat) (z0 : List Int) (b0 : Option Addr) (len1 cap1 : Nat) (z1 : List Int) (w : World) (w0 : IsRow .u8 w a0 len0 cap0 z0) (w1 : IsRow .u8 w b0 len1 cap1 z1) :
    Calls Try.prog 13 #[.slice a0 len0 cap0, .slice b0 len1 cap1] w fun e w' => e = .returned (.bool true) ∧ Below w.heap.size w w' := by
  have hle := w0.le
  have hby := w0.bytes
  have hle1 := w1.le
  clear w0 w1
  have mle : maxLen ≤ 9223372036854775807 := by unfold maxLen; omega
  by_cases hbig : len0 ≤ 1048576 ∧ len1 ≤ 1048576
  · obtain ⟨hbig, hbig1⟩ := hbig
    go_enter Try.func13, Try.ntmps13
    go_wp2_with fail
    with_reducible refine (drawPlanOf_calls _ _ _ _ hle.1 hle.2 hby).mono ?_
    rintro e w1 ⟨a1, a2, a3, c1, c2, c3, ps, ss, ds, m, rfl, hp6, hs8, hd8, hm1, hm3, s1⟩
    go_wp2_with fail
    with_reducible refine (planOf_calls a1 c1 ps a2 c2 ss a3 c3 ds m w1 (by omega) (by omega) (by omega) (own_intsR s1.own) (own_intsR s1.at1.own) (own_intsR s1.at2.own)).mono ?_
    rintro e w2 ⟨b2, e2, rfl, o2, hb2⟩
    have s2 := (s1.fresh hb2 o2 (Nat.le_refl _)).to3
    clear s1 o2 hb2
    go_wp2_with fail
    with_reducible refine (specPlanOf_calls a1 c1 ps a2 c2 ss a3 c3 ds m w2 (by omega) (by omega) (by omega) (own_intsR s2.own) (own_intsR s2.at1.own) (own_intsR s2.at2.own)).mono ?_
    rintro e w3 ⟨b3, e3, rfl, o3, hb3⟩
    have s3 := s2.fresh hb3 o3 (Nat.le_refl _)
    have hlr : (planR ps ss ds m).length ≤ 48 := by
      unfold planR
      split
      · have := planL_len ss ds m ps
        omega
      · simp
    have I2 := own_cellsR s3.at4.own
    have I3 := own_cellsR s3.own
    have J1 := own_intsR s3.at1.own
    have J2 := own_intsR s3.at2.own
    have J3 := own_intsR s3.at3.own
    have SA := Lib.hid (fun W (hb : Below w3.heap.size w3 W) => sameMoves_eq b2 b3 e2 e3 (planR ps ss ds m) W (by omega) (I2.below hb) (I3.below hb))
    have B3 := s3.below
    clear s2 s3 o3 hb3 I3
    cases hok : planOk ps ss ds m with
    | false =>
      generalize (planR ps ss ds m).length = R at *
      go_wp2_with fail
      with_reducible refine (SA.out _ (Below.refl _ _)).mono ?_
      rintro e w4 ⟨rfl, hb4⟩
      go_wp2_with fail
      with_reducible refine (SA.out _ hb4).mono ?_
      rintro e w5 ⟨rfl, hb5⟩
      have FIN2 := Lib.hid ((B3.trans (hb4.mono B3.size)).trans (hb5.mono (Nat.le_trans B3.size hb4.size)))
      clear hb4 hb5
      go_wp2_with fail
      go_ret
      exact ⟨rfl, FIN2.out⟩
    | true =>
      have PR : planR ps ss ds m = planL ps ss ds m := by rw [planR, hok]; rfl
      rw [PR] at SA hlr I2
      rw [PR]
      clear PR
      by_cases hps0 : ps.length = 0
      · generalize planL ps ss ds m = R at *
        have hz : ((ps.length : Int) == 0) = true := by simp [hps0]
        go_wp2_with fail
        with_reducible refine (SA.out _ (Below.refl _ _)).mono ?_
        rintro e w4 ⟨rfl, hb4⟩
        go_wp2_with fail
        with_reducible refine (SA.out _ hb4).mono ?_
        rintro e w5 ⟨rfl, hb5⟩
        have FIN2 := Lib.hid ((B3.trans (hb4.mono B3.size)).trans (hb5.mono (Nat.le_trans B3.size hb4.size)))
        clear hb4 hb5
        go_wp2_with fail
        go_ret
        exact ⟨rfl, FIN2.out⟩
      · have hp0 : 0 < ps.length := by omega
        have hz : ((ps.length : Int) == 0) = false := by simp; intro e; rw [e] at hps0; exact hps0 rfl
        obtain ⟨kk, e1, e2, hkk⟩ : ∃ k : Nat, (len1 : Int) % (ps.length : Int) = k ∧ (len1 : Int).tmod (ps.length : Int) = k ∧ k < ps.length := ⟨len1 % ps.length, by omega, by rw [Int.tmod_eq_emod_of_nonneg (by omega)]; omega, Nat.mod_lt _ hp0⟩
        have PM := Lib.hid (plan_many hok (List.getElem_mem hkk))
        have hpz : (ps.length : Int) ≠ 0 := by omega
        generalize planL ps ss ds m = R at *
        clear hps0
        go_wp2_with fail
        with_reducible refine (SA.out _ (Below.refl _ _)).mono ?_
        rintro e w4 ⟨rfl, hb4⟩
        clear SA
        rcases J1.below hb4 with h0 | ⟨bp, off, rfl, hc⟩
        · rw [h0] at hp0; simp at hp0
        have hcell : w4.cell? ⟨bp, off + kk, none⟩ = some (.int .i64 ps[kk]) := by
          have := hc kk hkk
          simpa [hkk] using this
        have i1 : (0 : Int) ≤ (kk : Int) := by omega
        have i2 : (kk : Int) < (ps.length : Int) := by omega
        clear hc J1
        generalize ps[kk] = x at *
        go_wp2_with fail
        with_reducible refine (placeOf_calls x a2 c2 ss m w4 (by omega) (J2.below hb4)).mono ?_
        rintro e w5 ⟨oa, oc, rfl, o5, hb5⟩
        have hb6 := hb4.trans (hb5.mono hb4.size)
        have I5 := own_intsR o5
        have hol := placeR_len x ss m
        clear o5 hb4 hb5 hcell e1 e2
        generalize placeR x ss m = old at *
        go_wp2_with fail
        go_loop [16, 17] (fun g i => ∃ k : Nat, k ≤ old.length ∧ i = .int .i64 k ∧ g = .int .i64 ((k : Int) - (goneP (old.take k) ds).length)) (fun _ i => old.length - (intOf i).toNat)
        case atStart => exact ⟨0, Nat.zero_le _, rfl, by simp [goneP]⟩
        case round =>
          obtain ⟨k, hk, rfl, rfl⟩ := hrel
          have hgk := goneP_len (old.take k) ds
          rw [List.length_take] at hgk
          by_cases hlt : k < old.length
          · rcases I5 with rfl | ⟨bk, off2, rfl, hc⟩
            · simp at hlt
            have hcell : w5.cell? ⟨bk, off2 + k, none⟩ = some (.int .i64 old[k]) := by
              have := hc k hlt
              simpa [hlt] using this
            have j1 : (0 : Int) ≤ (k : Int) := by omega
            have j2 : (k : Int) < (old.length : Int) := by omega
            have TS := Lib.hid (take_snocI hlt)
            have HA1 := hasInt_calls a3 c3 ds old[k] w5 (by omega) (J3.below hb6)
            clear hc
            generalize old[k] = y at *
            by_cases hin : y ∈ ds
            · rw [decide_eq_true hin] at HA1
              have HA := Lib.hid HA1
              have GO := Lib.hid (show (goneP (old.take (k + 1)) ds).length = (goneP (old.take k) ds).length by rw [TS.out, goneP_snoc_in hin])
              clear hin HA1
              generalize (goneP (old.take k) ds).length = L at *
              go_wp2_with fail
              with_reducible refine HA.out.mono ?_
              rintro e w' ⟨rfl, rfl⟩
              go_wp2_with fail
              go_round
              case rel => exact ⟨k + 1, hlt, by go_num, by rw [GO.out]; go_num⟩
              case measure => simp [intOf]; omega
            · rw [decide_eq_false hin] at HA1
              have HA := Lib.hid HA1
              have GO := Lib.hid (show (goneP (old.take (k + 1)) ds).length = (goneP (old.take k) ds).length + 1 by rw [TS.out, goneP_snoc_out hin]; simp)
              clear hin HA1
              generalize (goneP (old.take k) ds).length = L at *
              go_wp2_with fail
              with_reducible refine HA.out.mono ?_
              rintro e w' ⟨rfl, rfl⟩
              go_wp2_with fail
              go_round
              case rel => exact ⟨k + 1, hlt, by go_num, by rw [GO.out]; go_num⟩
              case measure => simp [intOf]; omega
          · have hko : k = old.length := by omega
            have e3 : old.take k = old := List.take_of_length_le (by omega)
            rw [e3] at hgk ⊢
            rw [hko] at hgk ⊢
            clear e3 hko hlt hk
            generalize (goneP old ds).length = L at *
            generalize old.length = N at *
            obtain ⟨G, hG⟩ : ∃ G : Int, (cntP R x : Int) = G := ⟨_, rfl⟩
            have hG0 : 0 ≤ G := by omega
            have hG8 : G ≤ 48 := by have := cntP_le R x; omega
            have RL : Hid (∀ k : Nat, k < R.length → cntP (R.take (k + 1)) x = cntP (R.take k) x + (if (R.getD k (0, 0, 0)).1 = x then 1 else 0)) := Lib.hid (fun k hk => by
              rw [show R.take (k + 1) = R.take k ++ [R[k]] by rw [List.take_add_one, List.getElem?_eq_getElem hk]; rfl, cntP_snoc]
              simp [hk])
            by_cases hnl : (N : Int) - (L : Int) = N
            · have AT0 : Hid (G = 0) := Lib.hid (by have := PM.out; rw [if_pos hnl, hG] at this; exact this)
              have hnl' : (((N : Int) - (L : Int)) == (N : Int)) = true := by simpa using hnl
              clear hnl
              go_wp2_with fail
              go_loop [16, 18] (fun g i => ∃ k : Nat, k ≤ R.length ∧ i = .int .i64 k ∧ g = .int .i64 (G - (cntP (R.take k) x : Nat))) (fun _ i => R.length - (intOf i).toNat)
              case atStart => exact ⟨0, Nat.zero_le _, rfl, by simp [cntP, AT0.out]⟩
              case round =>
                obtain ⟨k, hk, rfl, rfl⟩ := hrel
                have hck := cntP_le (R.take k) x
                rw [List.length_take] at hck
                by_cases hlt : k < R.length
                · obtain ⟨rb, off3, rfl, d0, d1, d2⟩ := (I2.below hb6).move k hlt
                  have j1 : (0 : Int) ≤ (k : Int) := by omega
                  have j2 : (k : Int) < (R.length : Int) := by omega
                  have RL1 := RL.out k hlt
                  rw [show (R.getD k (0, 0, 0)) = R[k] by simp [hlt]] at RL1
                  generalize R[k] = v at *
                  by_cases hv : v.1 = x
                  · rw [if_pos hv] at RL1
                    have HR := Lib.hid RL1
                    have hv' : (v.1 == x) = true := by simpa using hv
                    clear RL1 hv
                    generalize cntP (R.take k) x = Q at *
                    go_wp2_with fail
                    go_round
                    case rel => exact ⟨k + 1, hlt, by go_num, by rw [HR.out]; go_num⟩
                    case measure => simp [intOf]; omega
                  · rw [if_neg hv] at RL1
                    have HR := Lib.hid RL1
                    have hv' : (v.1 == x) = false := by simpa using hv
                    clear RL1 hv
                    generalize cntP (R.take k) x = Q at *
                    go_wp2_with fail
                    go_round
                    case rel => exact ⟨k + 1, hlt, by go_num, by rw [HR.out]; rfl⟩
                    case measure => simp [intOf]; omega
                · rw [List.take_of_length_le (by omega), hG]
                  have FIN := Lib.hid (B3.trans (hb6.mono B3.size))
                  clear hG
                  go_wp2_with fail
                  go_ret
                  exact ⟨by simp, FIN.out⟩
            · have AT0 : Hid (G = (N : Int) - (L : Int)) := Lib.hid (by have := PM.out; rw [if_neg hnl, hG] at this; exact this)
              have hnl' : (((N : Int) - (L : Int)) == (N : Int)) = false := by simpa using hnl
              clear hnl
              go_wp2_with fail
              go_loop [16, 18] (fun g i => ∃ k : Nat, k ≤ R.length ∧ i = .int .i64 k ∧ g = .int .i64 (G - (cntP (R.take k) x : Nat))) (fun _ i => R.length - (intOf i).toNat)
              case atStart => exact ⟨0, Nat.zero_le _, rfl, by simp [cntP, AT0.out]⟩
              case round =>
                obtain ⟨k, hk, rfl, rfl⟩ := hrel
                have hck := cntP_le (R.take k) x
                rw [List.length_take] at hck
                by_cases hlt : k < R.length
                · obtain ⟨rb, off3, rfl, d0, d1, d2⟩ := (I2.below hb6).move k hlt
                  have j1 : (0 : Int) ≤ (k : Int) := by omega
                  have j2 : (k : Int) < (R.length : Int) := by omega
                  have RL1 := RL.out k hlt
                  rw [show (R.getD k (0, 0, 0)) = R[k] by simp [hlt]] at RL1
                  generalize R[k] = v at *
                  by_cases hv : v.1 = x
                  · rw [if_pos hv] at RL1
                    have HR := Lib.hid RL1
                    have hv' : (v.1 == x) = true := by simpa using hv
                    clear RL1 hv
                    generalize cntP (R.take k) x = Q at *
                    go_wp2_with fail
                    go_round
                    case rel => exact ⟨k + 1, hlt, by go_num, by rw [HR.out]; go_num⟩
                    case measure => simp [intOf]; omega
                  · rw [if_neg hv] at RL1
                    have HR := Lib.hid RL1
                    have hv' : (v.1 == x) = false := by simpa using hv
                    clear RL1 hv
                    generalize cntP (R.take k) x = Q at *
                    go_wp2_with fail
                    go_round
                    case rel => exact ⟨k + 1, hlt, by go_num, by rw [HR.out]; rfl⟩
                    case measure => simp [intOf]; omega
                · rw [List.take_of_length_le (by omega), hG]
                  have FIN := Lib.hid (B3.trans (hb6.mono B3.size))
                  clear hG
                  go_wp2_with fail
                  go_ret
                  exact ⟨by simp, FIN.out⟩
  · by_cases h0 : 1048576 < len0
    · go_enter Try.func13, Try.ntmps13
      go_wp2_with fail
      go_ret
      exact ⟨rfl, Below.refl _ _⟩
    · have h1 : 1048576 < len1 := by omega
      go_enter Try.func13, Try.ntmps13
      go_wp2_with fail
      go_ret
      exact ⟨rfl, Below.refl _ _⟩

end Go.Proofs.Ytcnanhjagefmjaa.fnPlanMany
