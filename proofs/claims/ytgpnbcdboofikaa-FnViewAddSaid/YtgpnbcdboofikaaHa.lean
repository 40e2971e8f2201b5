
/-
  The walk of hasInt. No statement is proved here.
-/
import Derived.Test.YtgpnbcdboofikaaSg
namespace Go.Proofs.Ytgpnbcdboofikaa
open Go.RowKit

theorem has_at {xs : List Int} {n : Int} {k : Nat} (hk : k < xs.length) (he : xs[k] = n) : decide (n ∈ xs) = true := decide_eq_true (he ▸ List.getElem_mem hk)
theorem has_not {xs : List Int} {n : Int} (h : ∀ j, j < xs.length → xs.getD j 0 ≠ n) : decide (n ∈ xs) = false := by
  rw [decide_eq_false_iff_not]
  intro hm
  obtain ⟨j, hj, e⟩ := List.getElem_of_mem hm
  exact h j hj (by simp [hj, e])

end Go.Proofs.Ytgpnbcdboofikaa
