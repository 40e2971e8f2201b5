
/-
  The walk of FnPlanLost.
-/
import Derived.Test.YtcnanhjagefmjaaX16
import Derived.Test.YtcnanhjagefmjaaX11
import Derived.Test.YtcnanhjagefmjaaSi
import Derived.Test.YtcnanhjagefmjaaHa
namespace Go.Proofs.Ytcnanhjagefmjaa.fnPlanLost
open Go.RowKit Go.Proofs.Ytcnanhjagefmjaa

theorem all_take {old ds : List Int} {k : Nat} (h : k < old.length) : (old.take (k + 1)).all (fun x => decide (x ∈ ds)) = ((old.take k).all (fun x => decide (x ∈ ds)) && decide (old[k] ∈ ds)) := by
  rw [take_snocI h, List.all_append]; simp
theorem all_lost {ps ss ds : List Int} {m p : Int} (hp : p ∈ ps) : (placeR p ss m).all (fun x => decide (x ∈ ds)) = decide (p ∈ lostL ps ss ds m) := by
  rw [Bool.eq_iff_iff, List.all_eq_true, decide_eq_true_eq, lost_mem hp]
  simp

set_option maxHeartbeats 4000000 in
theorem walk (a0 : Option Addr) (len0 cap0 : Nat) (z0 : List Int) (w : World) (w0 : IsRow .u8 w a0 len0 cap0 z0) :
    Calls Try.prog 8 #[.slice a0 len0 cap0] w fun e w' => e = .returned (.bool true) ∧ Below w.heap.size w w' := by
  have hle := w0.le
  have hby := w0.bytes
  clear w0
  by_cases hbig : len0 ≤ 1048576
  · go_enter Try.func8, Try.ntmps8
    go_wp2_with fail
    with_reducible refine (drawPlanLost_calls _ _ _ _ hle.1 hle.2 hby).mono ?_
    rintro e w1 ⟨a1, a2, a3, c1, c2, c3, ps, ss, ds, m, rfl, hp6, hs8, hd8, hm1, hm3, s1⟩
    go_wp2_with fail
    with_reducible refine (planLost_calls a1 c1 ps a2 c2 ss a3 c3 ds m w1 (by omega) (by omega) (by omega) (own_intsR s1.own) (own_intsR s1.at1.own) (own_intsR s1.at2.own)).mono ?_
    rintro e w2 ⟨b2, e2, rfl, o2, hb2⟩
    have s2 := (s1.fresh hb2 o2 (Nat.le_refl _)).to3
    clear s1 o2 hb2
    go_wp2_with fail
    with_reducible refine (specPlanLost_calls a1 c1 ps a2 c2 ss a3 c3 ds m w2 (by omega) (by omega) (by omega) (own_intsR s2.own) (own_intsR s2.at1.own) (own_intsR s2.at2.own)).mono ?_
    rintro e w3 ⟨b3, e3, rfl, o3, hb3⟩
    have s3 := s2.fresh hb3 o3 (Nat.le_refl _)
    have hlr : (lostR ps ss ds m).length ≤ ps.length := by
      unfold lostR
      split
      · exact lostL_len _ _ _ _
      · simp
    have I2 := own_intsR s3.at4.own
    have I3 := own_intsR s3.own
    have J1 := own_intsR s3.at1.own
    have J2 := own_intsR s3.at2.own
    have J3 := own_intsR s3.at3.own
    have SA := Lib.hid (fun W (hb : Below w3.heap.size w3 W) => sameInts_eq b2 b3 e2 e3 (lostR ps ss ds m) W (by omega) (I2.below hb) (I3.below hb))
    have B3 := s3.below
    clear s2 s3 o3 hb3 I3
    cases hok : planOk ps ss ds m with
    | false =>
      generalize (lostR ps ss ds m).length = R at *
      go_wp2_with fail
      with_reducible refine (SA.out _ (Below.refl _ _)).mono ?_
      rintro e w4 ⟨rfl, hb4⟩
      go_wp2_with fail
      with_reducible refine (SA.out _ hb4).mono ?_
      rintro e w5 ⟨rfl, hb5⟩
      have FIN2 := Lib.hid ((B3.trans (hb4.mono B3.size)).trans (hb5.mono (Nat.le_trans B3.size hb4.size)))
      clear hb4 hb5
      go_wp2_with fail
      go_ret
      exact ⟨rfl, FIN2.out⟩
    | true =>
      have LR : lostR ps ss ds m = lostL ps ss ds m := by rw [lostR, hok]; rfl
      have AL := Lib.hid (fun p (hp : p ∈ ps) => all_lost (ss := ss) (ds := ds) (m := m) hp)
      have PP := Lib.hid (fun p (hp : p ∈ ps) => plan_place hok hp)
      rw [← LR] at AL
      clear LR
      generalize lostR ps ss ds m = R at *
      have hd1 : decide ((R.length : Int) ≤ (ps.length : Int)) = true := decide_eq_true (by omega)
      go_wp2_with fail
      with_reducible refine (SA.out _ (Below.refl _ _)).mono ?_
      rintro e w4 ⟨rfl, hb4⟩
      clear SA
      go_wp2_with fail
      go_loopw [11] (fun i wr => ∃ k : Nat, k ≤ ps.length ∧ i = .int .i64 k ∧ Below w3.heap.size w3 wr) (fun i _ => ps.length - (intOf i).toNat)
      case atStart => exact ⟨0, Nat.zero_le _, rfl, hb4⟩
      case round =>
        clear hb4
        obtain ⟨k, hk, rfl, hb5⟩ := hrel
        by_cases hlt : k < ps.length
        · rcases J1.below hb5 with rfl | ⟨bk, off, rfl, hc⟩
          · simp at hlt
          have hcell : wr.cell? ⟨bk, off + k, none⟩ = some (.int .i64 ps[k]) := by
            have := hc k hlt
            simpa [hlt] using this
          have HC := Lib.hid (fun (w' : World) (hb : Below wr.heap.size wr w') => (hb.cell (p := ⟨bk, off + k, none⟩) (lt_of_cell hcell)).trans hcell)
          have i1 : (0 : Int) ≤ (k : Int) := by omega
          have i2 : (k : Int) < (ps.length : Int) := by omega
          have AL1 := Lib.hid (AL.out _ (List.getElem_mem hlt))
          have PP1 := Lib.hid (PP.out _ (List.getElem_mem hlt))
          clear hc
          generalize ps[k] = x at *
          go_wp2_with fail
          with_reducible refine (placeOf_calls x a2 c2 ss m wr (by omega) (J2.below hb5)).mono ?_
          rw [PP1.out]
          rintro e w6 ⟨va, vc, rfl, o6, hb6⟩
          have hb7 := hb5.trans (hb6.mono hb5.size)
          have c6 := HC.out w6 hb6
          have I6 := own_intsR o6
          have hol := placeR_len x ss m
          have HA1 := Lib.hid (hasInt_calls a3 c3 ds · w6 (by omega) (J3.below hb7))
          have HA2 := Lib.hid (hasInt_calls b2 e2 R x w6 (by omega) (I2.below hb7))
          clear o6 hb6 HC
          generalize placeR x ss m = old at *
          go_wp2_with fail
          go_loop [14, 15] (fun al j => ∃ n : Nat, n ≤ old.length ∧ j = .int .i64 n ∧ al = .bool ((old.take n).all (fun x => decide (x ∈ ds)))) (fun _ j => old.length - (intOf j).toNat)
          case atStart => exact ⟨0, Nat.zero_le _, rfl, by simp⟩
          case round =>
            obtain ⟨n, hn, rfl, rfl⟩ := hrel
            by_cases hlt2 : n < old.length
            · rcases I6 with rfl | ⟨bo, of2, rfl, hc⟩
              · simp at hlt2
              have hcell2 : w6.cell? ⟨bo, of2 + n, none⟩ = some (.int .i64 old[n]) := by
                have := hc n hlt2
                simpa [hlt2] using this
              have j1 : (0 : Int) ≤ (n : Int) := by omega
              have j2 : (n : Int) < (old.length : Int) := by omega
              have AT := Lib.hid (all_take (ds := ds) hlt2)
              have HA3 := Lib.hid (HA1.out old[n])
              clear hc
              generalize old[n] = y at *
              generalize (old.take n).all (fun x => decide (x ∈ ds)) = al at *
              cases al with
              | false =>
                go_wp2_with fail
                go_round
                case rel => exact ⟨n + 1, hlt2, by go_num, by rw [AT.out]; rfl⟩
                case measure => simp [intOf]; omega
              | true =>
                go_wp2_with fail
                with_reducible refine HA3.out.mono ?_
                rintro e w' ⟨rfl, rfl⟩
                go_wp2_with fail
                go_round
                case rel => exact ⟨n + 1, hlt2, by go_num, by rw [AT.out]; rfl⟩
                case measure => simp [intOf]; omega
            · rw [List.take_of_length_le (by omega), AL1.out]
              go_wp2_with fail
              with_reducible refine HA2.out.mono ?_
              rintro e w' ⟨rfl, rfl⟩
              go_wp2_with fail
              go_roundw
              case rel => exact ⟨k + 1, hlt, by go_num, hb7⟩
              case measure => simp [intOf]; omega
        · have FIN := Lib.hid (B3.trans (hb5.mono B3.size))
          go_wp2_with fail
          go_ret
          exact ⟨rfl, FIN.out⟩
  · go_enter Try.func8, Try.ntmps8
    go_wp2_with fail
    go_ret
    exact ⟨rfl, Below.refl _ _⟩

end Go.Proofs.Ytcnanhjagefmjaa.fnPlanLost
