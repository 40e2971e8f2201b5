
/-
  The walks of PlaceMoved. No statement is proved here.
-/
import Derived.Test.YtcnanhjagefmjaaX8
namespace Go.Proofs.Ytcnanhjagefmjaa
open Go.RowKit

/-- How many servers of a piece are others. -/
def movedR (p : Int) (a b : List Int) (m : Int) : Int := if placeOk p a m && placeOk p b m then ((goneP (placeR p b m) (placeR p a m)).length : Int) else -1
theorem placeR_valid {p : Int} {xs : List Int} {m : Int} : ∀ x ∈ placeR p xs m, (1 ≤ x ∧ x ≤ 99) ∧ x ∈ xs := by
  intro x hx
  cases h : placeOk p xs m with
  | false => rw [placeR_no h] at hx; cases hx
  | true =>
    rw [placeR_yes h] at hx
    have := rankP_mem.1 (List.mem_of_mem_take hx)
    exact ⟨asc_valid (placeOk_iff.1 h).2.1.2 x this, this⟩
theorem placeR_len (p : Int) (xs : List Int) (m : Int) : (placeR p xs m).length ≤ 8 := by
  cases h : placeOk p xs m with
  | false => rw [placeR_no h]; simp
  | true =>
    obtain ⟨_, ⟨h8, _⟩, h1, h2⟩ := placeOk_iff.1 h
    rw [placeR_yes h, placeP_len p xs _ (by omega)]
    omega

set_option maxHeartbeats 4000000 in
theorem placeMoved_calls (p : Int) (a : Option Addr) (cap : Nat) (xs : List Int) (b : Option Addr) (cap' : Nat) (ys : List Int) (m : Int) (w : World) (hm : xs.length ≤ 1099511627776) (hm' : ys.length ≤ 1099511627776) (hx : IntsAt w a xs) (hy : IntsAt w b ys) :
    Calls Try.prog 17 #[.int .i64 p, .slice a xs.length cap, .slice b ys.length cap', .int .i64 m] w fun e w' => e = .returned (.int .i64 (movedR p xs ys m)) ∧ Below w.heap.size w w' := by
  go_enter Try.func17, Try.ntmps17
  go_wp2_with fail
  with_reducible refine (placeOf_calls p a cap xs m w hm hx).mono ?_
  rintro e w1 ⟨va, vc, rfl, o1, hb1⟩
  go_wp2_with fail
  with_reducible refine (placeOf_calls p b cap' ys m w1 hm' (hy.below hb1)).mono ?_
  rintro e w2 ⟨ua, uc, rfl, o2, hb2⟩
  have i1 := (own_intsR o1).below hb2
  have i2 := own_intsR o2
  have hb := hb1.trans (hb2.mono hb1.size)
  have CM := Lib.hid (countMissing_calls ua uc (placeR p ys m) va vc (placeR p xs m) w2 (Nat.le_trans (placeR_len _ _ _) (by omega)) (Nat.le_trans (placeR_len _ _ _) (by omega)) i2 i1 (fun x hx => (placeR_valid x hx).1))
  clear o1 o2 i1 i2 hb1 hb2
  have MV : Hid (movedR p xs ys m = if placeOk p xs m && placeOk p ys m then ((goneP (placeR p ys m) (placeR p xs m)).length : Int) else -1) := Lib.hid rfl
  generalize (goneP (placeR p ys m) (placeR p xs m)).length = g at *
  generalize (placeR p ys m).length = ly at *
  generalize (placeR p xs m).length = lx at *
  cases h1 : placeOk p xs m with
  | false =>
    rw [h1] at MV
    go_wp2_with fail
    go_ret
    exact ⟨by rw [MV.out]; rfl, hb⟩
  | true =>
    cases h2 : placeOk p ys m with
    | false =>
      rw [h1, h2] at MV
      go_wp2_with fail
      go_ret
      exact ⟨by rw [MV.out]; rfl, hb⟩
    | true =>
      rw [h1, h2] at MV
      go_wp2_with fail
      with_reducible refine CM.out.mono ?_
      rintro e w3 ⟨rfl, hb3⟩
      go_wp2_with fail
      go_ret
      exact ⟨by rw [MV.out]; rfl, hb.trans (hb3.mono hb.size)⟩

set_option maxHeartbeats 4000000 in
theorem specPlaceMoved_calls (p : Int) (a : Option Addr) (cap : Nat) (xs : List Int) (b : Option Addr) (cap' : Nat) (ys : List Int) (m : Int) (w : World) (hm : xs.length ≤ 1099511627776) (hm' : ys.length ≤ 1099511627776) (hx : IntsAt w a xs) (hy : IntsAt w b ys) :
    Calls Try.prog 15 #[.int .i64 p, .slice a xs.length cap, .slice b ys.length cap', .int .i64 m] w fun e w' => e = .returned (.int .i64 (movedR p xs ys m)) ∧ Below w.heap.size w w' := by
  go_enter Try.func15, Try.ntmps15
  go_wp2_with fail
  with_reducible refine (specPlaceOf_calls p a cap xs m w hm hx).mono ?_
  rintro e w1 ⟨va, vc, rfl, o1, hb1⟩
  go_wp2_with fail
  with_reducible refine (specPlaceOf_calls p b cap' ys m w1 hm' (hy.below hb1)).mono ?_
  rintro e w2 ⟨ua, uc, rfl, o2, hb2⟩
  have i1 := (own_intsR o1).below hb2
  have i2 := own_intsR o2
  have hb := hb1.trans (hb2.mono hb1.size)
  have hly := placeR_len p ys m
  have PL := Lib.hid (fun n => l13Place_calls va vc (placeR p xs m) n w2 (Nat.le_trans (placeR_len _ _ _) (by omega)) i1)
  clear o1 o2 i1 hb1 hb2
  have MV : Hid (movedR p xs ys m = if placeOk p xs m && placeOk p ys m then ((goneP (placeR p ys m) (placeR p xs m)).length : Int) else -1) := Lib.hid rfl
  generalize placeR p ys m = zs at *
  generalize placeR p xs m = us at *
  cases h1 : placeOk p xs m with
  | false =>
    rw [h1] at MV
    go_wp2_with fail
    go_ret
    exact ⟨by rw [MV.out]; rfl, hb⟩
  | true =>
    cases h2 : placeOk p ys m with
    | false =>
      rw [h1, h2] at MV
      go_wp2_with fail
      go_ret
      exact ⟨by rw [MV.out]; rfl, hb⟩
    | true =>
      rw [h1, h2] at MV
      go_wp2_with fail
      go_loop [13, 14] (fun m i => ∃ (k : Nat), k ≤ zs.length ∧ i = .int .i64 k ∧ m = .int .i64 (goneP (zs.take k) us).length) (fun _ i => zs.length - (intOf i).toNat)
      case atStart => exact ⟨0, Nat.zero_le _, rfl, rfl⟩
      case round =>
        obtain ⟨k, hk, rfl, rfl⟩ := hrel
        by_cases hlt : k < zs.length
        · rcases i2 with rfl | ⟨bk, off, rfl, hc⟩
          · simp at hlt
          have hcell : w2.cell? ⟨bk, off + k, none⟩ = some (.int .i64 zs[k]) := by
            have := hc k hlt
            simpa [hlt] using this
          have i1 : (0 : Int) ≤ (k : Int) := by omega
          have i2 : (k : Int) < (zs.length : Int) := by omega
          have TS := Lib.hid (take_snocI hlt)
          have hgl : (goneP (zs.take k) us).length ≤ 100 := by
            have := goneP_len (zs.take k) us
            simp at this; omega
          clear hc
          generalize zs[k] = x at *
          have PL1 := PL.out x
          by_cases hin : x ∈ us
          · obtain ⟨j, hj⟩ := place_in hin
            rw [hj] at PL1
            have PL2 := Lib.hid PL1
            have GO := Lib.hid (show (goneP (zs.take (k + 1)) us).length = (goneP (zs.take k) us).length by rw [TS.out, goneP_snoc_in hin])
            clear hin PL1 hj
            generalize (goneP (zs.take k) us).length = L at *
            go_wp2_with fail
            with_reducible refine PL2.out.mono ?_
            rintro e w' ⟨rfl, rfl⟩
            go_wp2_with fail
            go_round
            case rel => exact ⟨k + 1, hlt, by go_num, by rw [GO.out]⟩
            case measure => simp [intOf]; omega
          · rw [place_out hin] at PL1
            have PL2 := Lib.hid PL1
            have GO := Lib.hid (show (goneP (zs.take (k + 1)) us).length = (goneP (zs.take k) us).length + 1 by rw [TS.out, goneP_snoc_out hin]; simp)
            clear hin PL1
            generalize (goneP (zs.take k) us).length = L at *
            go_wp2_with fail
            with_reducible refine PL2.out.mono ?_
            rintro e w' ⟨rfl, rfl⟩
            go_wp2_with fail
            go_round
            case rel => exact ⟨k + 1, hlt, by go_num, by rw [GO.out]; go_num⟩
            case measure => simp [intOf]; omega
        · rw [List.take_of_length_le (by omega)]
          go_wp2_with fail
          go_ret
          exact ⟨by rw [MV.out]; rfl, hb⟩

end Go.Proofs.Ytcnanhjagefmjaa
