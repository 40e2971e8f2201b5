
/-
  The walks of the functions on updates and logs: valid, LogValid, the program's and the reference's. No statement is proved here.
-/
import Derived.Test.YtebklbncfcdkmaaDoorU1
import Derived.Test.YtebklbncfcdkmaaDoorV0
namespace Go.Proofs.YtebklbncfcdkmaaDoor
open Go.RowKit

theorem keyValid_calls (n : Int) (w : World) :
    Calls Tryd.prog 84 #[.int .i64 n] w fun e w' => e = .returned (.bool (decide (0 ≤ n ∧ n ≤ 4))) ∧ w = w' := by
  by_cases h1 : 0 ≤ n
  · go_enter Tryd.func84, Tryd.ntmps84
    go_wp2
    go_ret
    exact ⟨ret_bool (by rw [Bool.eq_iff_iff]; simp; omega), rfl⟩
  · go_enter Tryd.func84, Tryd.ntmps84
    go_wp2
    go_ret
    exact ⟨ret_bool (by rw [Bool.eq_iff_iff]; simp; omega), rfl⟩
theorem keyValid_yes (n : Int) (w : World) (h : 0 ≤ n ∧ n ≤ 4) : Calls Tryd.prog 84 #[.int .i64 n] w fun e w' => e = .returned (.bool true) ∧ w = w' := by
  have := keyValid_calls n w; rw [decide_eq_true h] at this; exact this
theorem keyValid_no (n : Int) (w : World) (h : ¬ (0 ≤ n ∧ n ≤ 4)) : Calls Tryd.prog 84 #[.int .i64 n] w fun e w' => e = .returned (.bool false) ∧ w = w' := by
  have := keyValid_calls n w; rw [decide_eq_false h] at this; exact this

set_option maxHeartbeats 400000 in
theorem valid_calls (k v : Int) (w : World) :
    Calls Tryd.prog 63 #[.agg #[.int .i64 k, .int .i64 v]] w fun e w' => e = .returned (.bool (updOk (k, v))) ∧ Below w.heap.size w w' := by
  have hb : Below w.heap.size w (w.alloc (.cells #[.int .i64 k, .int .i64 v] 25)) := (Below.refl _ _).alloc (Nat.le_refl _) _
  by_cases h1 : 0 ≤ k ∧ k ≤ 4
  · by_cases h2 : 0 ≤ v
    · by_cases h3 : v ≤ 99
      · have F : Hid (updOk (k, v) = true) := Lib.hid (decide_eq_true ⟨h1.1, h1.2, h2, h3⟩)
        go_enter Tryd.func63, Tryd.ntmps63
        go_wp2_with (go_at_call 84; refine (keyValid_yes _ _ h1).mono ?_; rintro e w' ⟨rfl, rfl⟩)
        go_ret
        exact ⟨ret_bool (by first | (rw [F.out]; done) | (rw [F.out]; simp; omega)), hb⟩
      · have F : Hid (updOk (k, v) = false) := Lib.hid (decide_eq_false fun h => h3 h.2.2.2)
        go_enter Tryd.func63, Tryd.ntmps63
        go_wp2_with (go_at_call 84; refine (keyValid_yes _ _ h1).mono ?_; rintro e w' ⟨rfl, rfl⟩)
        go_ret
        exact ⟨ret_bool (by first | (rw [F.out]; done) | (rw [F.out]; simp; omega)), hb⟩
    · have F : Hid (updOk (k, v) = false) := Lib.hid (decide_eq_false fun h => h2 h.2.2.1)
      go_enter Tryd.func63, Tryd.ntmps63
      go_wp2_with (go_at_call 84; refine (keyValid_yes _ _ h1).mono ?_; rintro e w' ⟨rfl, rfl⟩)
      go_ret
      exact ⟨ret_bool (by first | (rw [F.out]; done) | (rw [F.out]; simp; omega)), hb⟩
  · have F : Hid (updOk (k, v) = false) := Lib.hid (decide_eq_false fun h => h1 ⟨h.1, h.2.1⟩)
    have HX := Lib.hid h1; clear h1
    go_enter Tryd.func63, Tryd.ntmps63
    go_wp2_with (go_at_call 84; refine (keyValid_no _ _ HX.out).mono ?_; rintro e w' ⟨rfl, rfl⟩)
    go_ret
    exact ⟨ret_bool (by first | (rw [F.out]; done) | (rw [F.out]; simp; omega)), hb⟩

set_option maxHeartbeats 400000 in
theorem specUpdateValid_calls (k v : Int) (w : World) :
    Calls Tryd.prog 38 #[.agg #[.int .i64 k, .int .i64 v]] w fun e w' => e = .returned (.bool (updOk (k, v))) ∧ Below w.heap.size w w' := by
  have hb : Below w.heap.size w (w.alloc (.cells #[.int .i64 k, .int .i64 v] 25)) := (Below.refl _ _).alloc (Nat.le_refl _) _
  by_cases h1 : 0 ≤ k ∧ k ≤ 4
  · by_cases h2 : 0 ≤ v ∧ v ≤ 99
    · have F : Hid (updOk (k, v) = true) := Lib.hid (decide_eq_true ⟨h1.1, h1.2, h2.1, h2.2⟩)
      have HX := Lib.hid h1; have HY := Lib.hid h2; clear h1 h2
      go_enter Tryd.func38, Tryd.ntmps38
      go_wp2_with fail
      refine (l6In_yes _ _ _ _ HX.out).mono ?_
      rintro e w' ⟨rfl, rfl⟩
      go_wp2_with fail
      refine (l6In_yes _ _ _ _ HY.out).mono ?_
      rintro e w' ⟨rfl, rfl⟩
      go_wp2_with fail
      go_ret
      exact ⟨ret_bool (by first | (rw [F.out]; done) | (rw [F.out]; simp; omega)), hb⟩
    · have F : Hid (updOk (k, v) = false) := Lib.hid (decide_eq_false fun h => h2 ⟨h.2.2.1, h.2.2.2⟩)
      have HX := Lib.hid h1; have HY := Lib.hid h2; clear h1 h2
      go_enter Tryd.func38, Tryd.ntmps38
      go_wp2_with fail
      refine (l6In_yes _ _ _ _ HX.out).mono ?_
      rintro e w' ⟨rfl, rfl⟩
      go_wp2_with fail
      refine (l6In_no _ _ _ _ HY.out).mono ?_
      rintro e w' ⟨rfl, rfl⟩
      go_wp2_with fail
      go_ret
      exact ⟨ret_bool (by first | (rw [F.out]; done) | (rw [F.out]; simp; omega)), hb⟩
  · have F : Hid (updOk (k, v) = false) := Lib.hid (decide_eq_false fun h => h1 ⟨h.1, h.2.1⟩)
    have HX := Lib.hid h1; clear h1
    go_enter Tryd.func38, Tryd.ntmps38
    go_wp2_with fail
    refine (l6In_no _ _ _ _ HX.out).mono ?_
    rintro e w' ⟨rfl, rfl⟩
    go_wp2_with fail
    go_ret
    exact ⟨ret_bool (by first | (rw [F.out]; done) | (rw [F.out]; simp; omega)), hb⟩

set_option maxHeartbeats 1000000 in
theorem logValid_calls (a : Option Addr) (cap : Nat) (us : List Upd) (w : World) (hm : us.length ≤ 1099511627776) (hx : UpdsAt w a us) :
    Calls Tryd.prog 37 #[.slice a us.length cap] w fun e w' => e = .returned (.bool (logOk us)) ∧ Below w.heap.size w w' := by
  by_cases hl : us.length ≤ 12
  · go_enter Tryd.func37, Tryd.ntmps37
    go_wp2_with fail
    go_loopw [10] (fun i wr => ∃ k : Nat, k ≤ us.length ∧ i = .int .i64 k ∧ (us.take k).all updOk = true ∧ Below w.heap.size w wr) (fun i _ => us.length - (intOf i).toNat)
    case atStart => exact ⟨0, Nat.zero_le _, rfl, rfl, Below.refl _ _⟩
    case round =>
      obtain ⟨k, hk, rfl, ha, hB⟩ := hrel
      have HA := Lib.hid ha
      clear ha
      by_cases hlt : k < us.length
      · obtain ⟨b, off, rfl, c0, c1⟩ := (hx.below hB).cells k hlt
        have hBA : Below w.heap.size w (wr.alloc (.cells #[.int .i64 us[k].1, .int .i64 us[k].2] 25)) := hB.alloc hB.size _
        have i1 : (0 : Int) ≤ (k : Int) := by omega
        have i2 : (k : Int) < (us.length : Int) := by omega
        cases hv : updOk us[k] with
        | true =>
          have HN := Lib.hid (allU_snoc hlt HA.out hv)
          have HV : Hid (updOk (us[k].1, us[k].2) = true) := Lib.hid hv
          clear hv
          generalize us[k].1 = p at *
          generalize us[k].2 = q at *
          go_wp2_with fail
          refine (valid_calls _ _ _).mono ?_
          rw [HV.out]
          rintro e w1 ⟨rfl, hb1⟩
          go_wp2_with fail
          go_roundw
          case rel => exact ⟨k + 1, hlt, by go_num, HN.out, hBA.trans (hb1.mono hBA.size)⟩
          case measure => simp [intOf]; omega
        | false =>
          have HN := Lib.hid (logOk_bad k hlt hv)
          have HV : Hid (updOk (us[k].1, us[k].2) = false) := Lib.hid hv
          clear hv
          generalize us[k].1 = p at *
          generalize us[k].2 = q at *
          go_wp2_with fail
          refine (valid_calls _ _ _).mono ?_
          rw [HV.out]
          rintro e w1 ⟨rfl, hb1⟩
          go_wp2_with fail
          go_ret
          exact ⟨ret_bool (by rw [HN.out]), hBA.trans (hb1.mono hBA.size)⟩
      · go_wp2_with fail
        go_ret
        exact ⟨ret_bool (by have := HA.out; rw [List.take_of_length_le (by omega)] at this; rw [logOk_good hl this]), hB⟩
  · have F := Lib.hid (logOk_long hl)
    go_enter Tryd.func37, Tryd.ntmps37
    go_wp2_with fail
    go_ret
    exact ⟨ret_bool (by rw [F.out]), Below.refl _ _⟩

set_option maxHeartbeats 1000000 in
theorem specLogValid_calls (a : Option Addr) (cap : Nat) (us : List Upd) (w : World) (hm : us.length ≤ 1099511627776) (hx : UpdsAt w a us) :
    Calls Tryd.prog 42 #[.slice a us.length cap] w fun e w' => e = .returned (.bool (logOk us)) ∧ Below w.heap.size w w' := by
  go_enter Tryd.func42, Tryd.ntmps42
  go_wp2_with fail
  go_loopw [3] (fun i wr => ∃ k : Nat, k ≤ us.length ∧ i = .int .i64 k ∧ (us.take k).all updOk = true ∧ Below w.heap.size w wr) (fun i _ => us.length - (intOf i).toNat)
  case atStart => exact ⟨0, Nat.zero_le _, rfl, rfl, Below.refl _ _⟩
  case round =>
    obtain ⟨k, hk, rfl, ha, hB⟩ := hrel
    have HA := Lib.hid ha
    clear ha
    by_cases hlt : k < us.length
    · obtain ⟨b, off, rfl, c0, c1⟩ := (hx.below hB).cells k hlt
      have i1 : (0 : Int) ≤ (k : Int) := by omega
      have i2 : (k : Int) < (us.length : Int) := by omega
      cases hv : updOk us[k] with
      | true =>
        have HN := Lib.hid (allU_snoc hlt HA.out hv)
        have HV : Hid (updOk (us[k].1, us[k].2) = true) := Lib.hid hv
        clear hv
        generalize us[k].1 = p at *
        generalize us[k].2 = q at *
        go_wp2_with fail
        refine (specUpdateValid_calls _ _ _).mono ?_
        rw [HV.out]
        rintro e w1 ⟨rfl, hb1⟩
        go_wp2_with fail
        go_roundw
        case rel => exact ⟨k + 1, hlt, by go_num, HN.out, hB.trans (hb1.mono hB.size)⟩
        case measure => simp [intOf]; omega
      | false =>
        have HN := Lib.hid (logOk_bad k hlt hv)
        have HV : Hid (updOk (us[k].1, us[k].2) = false) := Lib.hid hv
        clear hv
        generalize us[k].1 = p at *
        generalize us[k].2 = q at *
        go_wp2_with fail
        refine (specUpdateValid_calls _ _ _).mono ?_
        rw [HV.out]
        rintro e w1 ⟨rfl, hb1⟩
        go_wp2_with fail
        go_ret
        exact ⟨ret_bool (by rw [HN.out]), hB.trans (hb1.mono hB.size)⟩
    · have HL : Hid (logOk us = decide (us.length ≤ 12)) := Lib.hid (by
        have := HA.out
        rw [List.take_of_length_le (by omega)] at this
        rw [logOk, this, Bool.and_true])
      go_wp2_with fail
      go_ret
      exact ⟨ret_bool (by rw [HL.out]; simp; omega), hB⟩

end Go.Proofs.YtebklbncfcdkmaaDoor
