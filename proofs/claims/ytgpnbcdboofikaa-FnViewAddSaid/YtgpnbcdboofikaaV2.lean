
/-
  The walks of ViewValid, the program's and the reference's. No statement is proved here.
-/
import Derived.Test.YtgpnbcdboofikaaV1
namespace Go.Proofs.Ytgpnbcdboofikaa
open Go.RowKit

theorem viewOk_bad1 {num : Int} {xs : List Int} (h : ¬ (0 ≤ num ∧ num ≤ 999 ∧ 1 ≤ xs.length ∧ xs.length ≤ 5)) : viewOk num xs = false := by
  rw [viewOk, decide_eq_false h]; rfl
theorem viewOk_good1 {num : Int} {xs : List Int} (h : 0 ≤ num ∧ num ≤ 999 ∧ 1 ≤ xs.length ∧ xs.length ≤ 5) : viewOk num xs = idsOk xs := by
  rw [viewOk, decide_eq_true h]; rfl

set_option maxHeartbeats 400000 in
theorem viewValid_calls (a : Option Addr) (cap : Nat) (num : Int) (xs : List Int) (w : World) (hm : xs.length ≤ 1099511627776) (hx : IntsAt w a xs) :
    Calls Try.prog 23 #[.agg #[.int .i64 num, .slice a xs.length cap]] w fun e w' => e = .returned (.bool (viewOk num xs)) ∧ Below w.heap.size w w' := by
  have hx1 := hx.below ((Below.refl w.heap.size w).alloc (Nat.le_refl _) (.cells #[.int .i64 num, .slice a xs.length cap] 36))
  by_cases h1 : 0 ≤ num
  · by_cases h2 : num ≤ 999
    · by_cases h3 : 1 ≤ xs.length
      · by_cases h4 : xs.length ≤ 5
        · have F := Lib.hid (viewOk_good1 ⟨h1, h2, h3, h4⟩)
          go_enter Try.func23, Try.ntmps23
          go_wp2_with (go_at_call 43; refine (idsDiffer_calls _ _ _ _ hm hx1).mono ?_; rintro e w1 ⟨rfl, hb1⟩)
          go_ret
          exact ⟨by rw [F.out]; rfl, ((Below.refl _ _).alloc (Nat.le_refl _) _).trans (hb1.mono (by simp))⟩
        · have F := Lib.hid (viewOk_bad1 (num := num) (xs := xs) (by omega))
          go_enter Try.func23, Try.ntmps23
          go_wp2
          go_ret
          exact ⟨by rw [F.out]; rfl, (Below.refl _ _).alloc (Nat.le_refl _) _⟩
      · have F := Lib.hid (viewOk_bad1 (num := num) (xs := xs) (by omega))
        go_enter Try.func23, Try.ntmps23
        go_wp2
        go_ret
        exact ⟨by rw [F.out]; rfl, (Below.refl _ _).alloc (Nat.le_refl _) _⟩
    · have F := Lib.hid (viewOk_bad1 (num := num) (xs := xs) (by omega))
      go_enter Try.func23, Try.ntmps23
      go_wp2
      go_ret
      exact ⟨by rw [F.out]; rfl, (Below.refl _ _).alloc (Nat.le_refl _) _⟩
  · have F := Lib.hid (viewOk_bad1 (num := num) (xs := xs) (by omega))
    go_enter Try.func23, Try.ntmps23
    go_wp2
    go_ret
    exact ⟨by rw [F.out]; rfl, (Below.refl _ _).alloc (Nat.le_refl _) _⟩


theorem viewOk_bad2 {num : Int} {xs : List Int} (h : idsOk xs = false) : viewOk num xs = false := by rw [viewOk, h, Bool.and_false]

end Go.Proofs.Ytgpnbcdboofikaa
