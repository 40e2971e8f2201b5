/-
  The walks of BaseValid, the program's and the reference's. No statement is proved here.
-/
import Derived.Test.YtgdbphgcpcihcaaB1
import Derived.Test.YtgdbphgcpcihcaaSg
namespace Go.Proofs.Ytgdbphgcpcihcaa
open Go.RowKit

theorem baseOk_bad1 {many : Int} {s : List Int} (h : ¬ (0 ≤ many ∧ many ≤ 999)) : baseOk many s = false := by rw [baseOk, decide_eq_false h]; rfl
theorem baseOk_bad2 {many : Int} {s : List Int} (h : stateOk s = false) : baseOk many s = false := by rw [baseOk, h, Bool.and_false]; rfl
theorem baseOk_rest {many : Int} {s : List Int} (h1 : 0 ≤ many ∧ many ≤ 999) (h2 : stateOk s = true) : baseOk many s = (decide ((someOf s : Int) ≤ many) && (decide (0 < (someOf s : Int)) == decide (0 < many))) := by
  rw [baseOk, decide_eq_true h1, h2]; rfl

set_option maxHeartbeats 1000000 in
theorem l33Some_calls (a : Option Addr) (cap : Nat) (s : List Int) (w : World) (hm : s.length ≤ 1099511627776) (hx : IntsAt w a s) :
    Calls Try.prog 55 #[.slice a s.length cap] w fun e w' => e = .returned (.int .i64 (someOf s)) ∧ w = w' := by
  go_enter Try.func55, Try.ntmps55
  go_wp2_with fail
  go_loop [3, 4] (fun n i => ∃ k : Nat, k ≤ s.length ∧ i = .int .i64 k ∧ n = .int .i64 (someTo s k)) (fun _ i => s.length - (intOf i).toNat)
  case atStart => exact ⟨0, Nat.zero_le _, rfl, rfl⟩
  case round =>
    obtain ⟨k, hk, rfl, rfl⟩ := hrel
    have hle := someTo_le s k
    by_cases hlt : k < s.length
    · rcases hx with rfl | ⟨b, off, rfl, hc⟩
      · simp at hlt
      have hcell := hc k hlt
      simp only [List.getD, List.getElem?_eq_getElem hlt, Option.getD_some] at hcell
      have hs := someTo_succ s k hlt
      have i1 : (0 : Int) ≤ (k : Int) := by omega
      have i2 : (k : Int) < (s.length : Int) := by omega
      clear hc
      generalize s[k] = x at *
      by_cases h0 : 0 ≤ x
      · rw [if_pos h0] at hs
        have HS := Lib.hid hs
        clear hs
        generalize someTo s k = c at *
        go_wp2_with fail
        go_round
        case rel => exact ⟨k + 1, hlt, by go_num, by rw [HS.out]; go_num⟩
        case measure => simp [intOf]; omega
      · rw [if_neg h0] at hs
        have HS := Lib.hid hs
        clear hs
        generalize someTo s k = c at *
        go_wp2_with fail
        go_round
        case rel => exact ⟨k + 1, hlt, by go_num, by rw [HS.out]⟩
        case measure => simp [intOf]; omega
    · obtain rfl : k = s.length := by omega
      go_wp2_with fail
      go_ret
      exact ⟨rfl, rfl⟩

set_option maxHeartbeats 2000000 in
theorem baseValid_calls (a : Option Addr) (cap : Nat) (many : Int) (s : List Int) (w : World) (hm : s.length ≤ 1099511627776) (hx : IntsAt w a s) :
    Calls Try.prog 47 #[.agg #[.int .i64 many, .slice a s.length cap]] w fun e w' => e = .returned (.bool (baseOk many s)) ∧ Below w.heap.size w w' := by
  have hB : Below w.heap.size w (w.alloc (.cells #[.int .i64 many, .slice a s.length cap] 29)) := (Below.refl _ _).alloc (Nat.le_refl _) _
  have hx1 := hx.below hB
  by_cases h0 : 0 ≤ many
  · by_cases h1 : many ≤ 999
    · cases hv : stateOk s with
      | false =>
        have F := Lib.hid (baseOk_bad2 (many := many) hv)
        have HV := Lib.hid hv
        clear hv
        go_enter Try.func47, Try.ntmps47
        go_wp2_with fail
        refine (stateValid_calls _ _ _ _ hm hx1).mono ?_
        rw [HV.out]
        rintro e w1 ⟨rfl, rfl⟩
        go_wp2_with fail
        go_ret
        exact ⟨ret_bool (by rw [F.out]), hB⟩
      | true =>
        have F := Lib.hid (baseOk_rest ⟨h0, h1⟩ hv)
        have HV := Lib.hid hv
        clear hv
        go_enter Try.func47, Try.ntmps47
        go_wp2_with fail
        refine (stateValid_calls _ _ _ _ hm hx1).mono ?_
        rw [HV.out]
        rintro e w1 ⟨rfl, rfl⟩
        go_wp2_with fail
        go_loop [3, 5, 23] (fun n _ i => ∃ k : Nat, k ≤ s.length ∧ i = .int .i64 k ∧ n = .int .i64 (someTo s k)) (fun _ _ i => s.length - (intOf i).toNat)
        case atStart => exact ⟨0, Nat.zero_le _, rfl, rfl⟩
        case round =>
          obtain ⟨k, hk, rfl, rfl⟩ := hrel
          have hle := someTo_le s k
          by_cases hlt : k < s.length
          · rcases hx1 with rfl | ⟨b, off, rfl, hc⟩
            · simp at hlt
            have hcell := hc k hlt
            simp only [List.getD, List.getElem?_eq_getElem hlt, Option.getD_some] at hcell
            have hs := someTo_succ s k hlt
            have i1 : (0 : Int) ≤ (k : Int) := by omega
            have i2 : (k : Int) < (s.length : Int) := by omega
            clear hc
            generalize s[k] = x at *
            by_cases h0 : 0 ≤ x
            · rw [if_pos h0] at hs
              have HS := Lib.hid hs
              clear hs
              generalize someTo s k = c at *
              go_wp2_with fail
              go_round
              case rel => exact ⟨k + 1, hlt, by go_num, by rw [HS.out]; go_num⟩
              case measure => simp [intOf]; omega
            · rw [if_neg h0] at hs
              have HS := Lib.hid hs
              clear hs
              generalize someTo s k = c at *
              go_wp2_with fail
              go_round
              case rel => exact ⟨k + 1, hlt, by go_num, by rw [HS.out]⟩
              case measure => simp [intOf]; omega
          · obtain rfl : k = s.length := by omega
            have F' : Hid (baseOk many s = (decide ((someTo s s.length : Int) ≤ many) && (decide (0 < (someTo s s.length : Int)) == decide (0 < many)))) := F
            generalize someTo s s.length = c at *
            by_cases h2 : (c : Int) ≤ many
            · by_cases h3 : 0 < c
              · have h4 : 0 < many := by omega
                have h3' : (0 : Int) < (c : Int) := by omega
                have FF : Hid (baseOk many s = true) := Lib.hid (by rw [F'.out, decide_eq_true h2, decide_eq_true h3', decide_eq_true h4]; rfl)
                go_wp2_with fail
                go_ret
                exact ⟨ret_bool (by rw [FF.out]), hB⟩
              · by_cases h4 : 0 < many
                · have FF : Hid (baseOk many s = false) := Lib.hid (by rw [F'.out, decide_eq_true h2, decide_eq_false (show ¬ (0 : Int) < (c : Int) by omega), decide_eq_true h4]; rfl)
                  go_wp2_with fail
                  go_ret
                  exact ⟨ret_bool (by rw [FF.out]), hB⟩
                · have FF : Hid (baseOk many s = true) := Lib.hid (by rw [F'.out, decide_eq_true h2, decide_eq_false (show ¬ (0 : Int) < (c : Int) by omega), decide_eq_false h4]; rfl)
                  go_wp2_with fail
                  go_ret
                  exact ⟨ret_bool (by rw [FF.out]), hB⟩
            · have FF : Hid (baseOk many s = false) := Lib.hid (by rw [F'.out, decide_eq_false h2]; rfl)
              go_wp2_with fail
              go_ret
              exact ⟨ret_bool (by rw [FF.out]), hB⟩
    · have F := Lib.hid (baseOk_bad1 (s := s) (show ¬ (0 ≤ many ∧ many ≤ 999) by omega))
      have h1' : 999 < many := by omega
      go_enter Try.func47, Try.ntmps47
      go_wp2_with fail
      go_ret
      exact ⟨ret_bool (by rw [F.out]), hB⟩
  · have F := Lib.hid (baseOk_bad1 (s := s) (show ¬ (0 ≤ many ∧ many ≤ 999) by omega))
    have h1' : many < 0 := by omega
    go_enter Try.func47, Try.ntmps47
    go_wp2_with fail
    go_ret
    exact ⟨ret_bool (by rw [F.out]), hB⟩

set_option maxHeartbeats 2000000 in
theorem specBaseValid_calls (a : Option Addr) (cap : Nat) (many : Int) (s : List Int) (w : World) (hm : s.length ≤ 1099511627776) (hx : IntsAt w a s) :
    Calls Try.prog 19 #[.agg #[.int .i64 many, .slice a s.length cap]] w fun e w' => e = .returned (.bool (baseOk many s)) ∧ Below w.heap.size w w' := by
  have hB : Below w.heap.size w (w.alloc (.cells #[.int .i64 many, .slice a s.length cap] 29)) := (Below.refl _ _).alloc (Nat.le_refl _) _
  have hx1 := hx.below hB
  have hxn := fun m => hx1.drewN m
  clear hx
  by_cases h0 : 0 ≤ many ∧ many ≤ 999
  · have HX := Lib.hid h0
    cases hv : stateOk s with
    | false =>
      have F := Lib.hid (baseOk_bad2 (many := many) hv)
      have SV := Lib.hid (fun W (h : IntsAt W a s) => hv ▸ specStateValid_calls a cap s W hm h)
      clear hv h0
      go_enter Try.func19, Try.ntmps19
      go_wp2_with fail
      go_quiet ((first | (go_at_call 53; exact quiet_here (l6In_yes _ _ _ _ HX.out)) | (go_at_call 54; exact quiet_here (SV.out _ (hxn _)))))
      go_wp2_with fail
      go_ret
      exact ⟨ret_bool (by rw [F.out]), below_drewN hB _⟩
    | true =>
      have F := Lib.hid (baseOk_rest h0 hv)
      have SV := Lib.hid (fun W (h : IntsAt W a s) => hv ▸ specStateValid_calls a cap s W hm h)
      have SO := Lib.hid (fun W (h : IntsAt W a s) => l33Some_calls a cap s W hm h)
      clear hv h0
      generalize someOf s = c at *
      by_cases h2 : (c : Int) ≤ many
      · by_cases h3 : 0 < c
        · have h4 : 0 < many := by omega
          have h3' : (0 : Int) < (c : Int) := by omega
          have FF : Hid (baseOk many s = true) := Lib.hid (by rw [F.out, decide_eq_true h2, decide_eq_true h3', decide_eq_true h4]; rfl)
          have e1 : decide ((c : Int) ≤ many) = true := decide_eq_true h2
          go_enter Try.func19, Try.ntmps19
          go_wp2_with fail
          go_quiet ((first | (go_at_call 53; exact quiet_here (l6In_yes _ _ _ _ HX.out)) | (go_at_call 54; exact quiet_here (SV.out _ (hxn _))) | (go_at_call 55; exact quiet_here (SO.out _ (hxn _)))))
          go_wp2_with fail
          go_ret
          exact ⟨ret_bool (by rw [FF.out] <;> (simp; omega)), below_drewN hB _⟩
        · by_cases h4 : 0 < many
          · have FF : Hid (baseOk many s = false) := Lib.hid (by rw [F.out, decide_eq_true h2, decide_eq_false (show ¬ (0 : Int) < (c : Int) by omega), decide_eq_true h4]; rfl)
            have e1 : decide ((c : Int) ≤ many) = true := decide_eq_true h2
            go_enter Try.func19, Try.ntmps19
            go_wp2_with fail
            go_quiet ((first | (go_at_call 53; exact quiet_here (l6In_yes _ _ _ _ HX.out)) | (go_at_call 54; exact quiet_here (SV.out _ (hxn _))) | (go_at_call 55; exact quiet_here (SO.out _ (hxn _)))))
            go_wp2_with fail
            go_ret
            exact ⟨ret_bool (by rw [FF.out] <;> (simp; omega)), below_drewN hB _⟩
          · have FF : Hid (baseOk many s = true) := Lib.hid (by rw [F.out, decide_eq_true h2, decide_eq_false (show ¬ (0 : Int) < (c : Int) by omega), decide_eq_false h4]; rfl)
            have e1 : decide ((c : Int) ≤ many) = true := decide_eq_true h2
            go_enter Try.func19, Try.ntmps19
            go_wp2_with fail
            go_quiet ((first | (go_at_call 53; exact quiet_here (l6In_yes _ _ _ _ HX.out)) | (go_at_call 54; exact quiet_here (SV.out _ (hxn _))) | (go_at_call 55; exact quiet_here (SO.out _ (hxn _)))))
            go_wp2_with fail
            go_ret
            exact ⟨ret_bool (by rw [FF.out] <;> (simp; omega)), below_drewN hB _⟩
      · have FF : Hid (baseOk many s = false) := Lib.hid (by rw [F.out, decide_eq_false h2]; rfl)
        have e1 : decide ((c : Int) ≤ many) = false := decide_eq_false h2
        go_enter Try.func19, Try.ntmps19
        go_wp2_with fail
        go_quiet ((first | (go_at_call 53; exact quiet_here (l6In_yes _ _ _ _ HX.out)) | (go_at_call 54; exact quiet_here (SV.out _ (hxn _))) | (go_at_call 55; exact quiet_here (SO.out _ (hxn _)))))
        go_wp2_with fail
        go_ret
        exact ⟨ret_bool (by rw [FF.out] <;> (simp; omega)), below_drewN hB _⟩
  · have F := Lib.hid (baseOk_bad1 (s := s) h0)
    have HX := Lib.hid h0
    clear h0
    go_enter Try.func19, Try.ntmps19
    go_wp2_with fail
    go_quiet ((go_at_call 53; exact quiet_here (l6In_no _ _ _ _ HX.out)))
    go_wp2_with fail
    go_ret
    exact ⟨ret_bool (by rw [F.out]), below_drewN hB _⟩

end Go.Proofs.Ytgdbphgcpcihcaa
