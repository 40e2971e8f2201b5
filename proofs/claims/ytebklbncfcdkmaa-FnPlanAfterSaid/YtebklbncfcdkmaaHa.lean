
/-
  The walk of hasInt. No statement is proved here.
-/
import Derived.Test.YtebklbncfcdkmaaSg
namespace Go.Proofs.Ytebklbncfcdkmaa
open Go.RowKit

theorem has_at {xs : List Int} {n : Int} {k : Nat} (hk : k < xs.length) (he : xs[k] = n) : decide (n ∈ xs) = true := decide_eq_true (he ▸ List.getElem_mem hk)
theorem has_not {xs : List Int} {n : Int} (h : ∀ j, j < xs.length → xs.getD j 0 ≠ n) : decide (n ∈ xs) = false := by
  rw [decide_eq_false_iff_not]
  intro hm
  obtain ⟨j, hj, e⟩ := List.getElem_of_mem hm
  exact h j hj (by simp [hj, e])

set_option maxHeartbeats 400000 in
theorem hasInt_calls (a : Option Addr) (cap : Nat) (xs : List Int) (n : Int) (w : World) (hm : xs.length ≤ 1099511627776) (hx : IntsAt w a xs) :
    Calls Try.prog 8 #[.slice a xs.length cap, .int .i64 n] w fun e w' => e = .returned (.bool (decide (n ∈ xs))) ∧ w = w' := by
  go_enter Try.func8, Try.ntmps8
  go_wp2
  go_loop [5] (fun i => ∃ k : Nat, k ≤ xs.length ∧ i = .int .i64 k ∧ ∀ j, j < k → xs.getD j 0 ≠ n) (fun i => xs.length - (intOf i).toNat)
  case atStart => exact ⟨0, Nat.zero_le _, rfl, by intro j hj; omega⟩
  case round =>
    obtain ⟨k, hk, rfl, hn⟩ := hrel
    by_cases hlt : k < xs.length
    · rcases hx with rfl | ⟨b, off, rfl, hc⟩
      · simp at hlt
      have hcell := hc k hlt
      have HN := Lib.hid hn; clear hn hc
      go_wp2
      · have he : (xs[k] == n) = true := by assumption
        go_ret
        exact ⟨by rw [has_at hlt (by simpa using he)]; rfl, rfl⟩
      · have he : (xs[k] == n) = false := by assumption
        go_round
        case rel =>
          refine ⟨k + 1, hlt, by go_num, fun j hj => ?_⟩
          by_cases e : j = k
          · subst e; simpa [hlt] using he
          · exact HN.out j (by omega)
        case measure => simp [intOf]; omega
    · have HN := Lib.hid hn; clear hn
      go_wp2
      go_ret
      exact ⟨by rw [has_not (fun j hj => HN.out j (by omega))]; rfl, rfl⟩

theorem hasInt_yes (a : Option Addr) (cap : Nat) (xs : List Int) (n : Int) (w : World) (hm : xs.length ≤ 1099511627776) (hx : IntsAt w a xs) (h : n ∈ xs) :
    Calls Try.prog 8 #[.slice a xs.length cap, .int .i64 n] w fun e w' => e = .returned (.bool true) ∧ w = w' := by
  have := hasInt_calls a cap xs n w hm hx
  rw [decide_eq_true h] at this; exact this
theorem hasInt_no (a : Option Addr) (cap : Nat) (xs : List Int) (n : Int) (w : World) (hm : xs.length ≤ 1099511627776) (hx : IntsAt w a xs) (h : n ∉ xs) :
    Calls Try.prog 8 #[.slice a xs.length cap, .int .i64 n] w fun e w' => e = .returned (.bool false) ∧ w = w' := by
  have := hasInt_calls a cap xs n w hm hx
  rw [decide_eq_false h] at this; exact this
end Go.Proofs.Ytebklbncfcdkmaa
