
/-
  Words for the walks that hold two slices against each other. No statement is proved here.
-/
import Derived.Test.YtebklbncfcdkmaaDoorK2
import Derived.Test.YtebklbncfcdkmaaDoorP1
namespace Go.Proofs.YtebklbncfcdkmaaDoor
open Go.RowKit

theorem take_eq_snoc {xs ys : List Int} {k : Nat} (h : xs.take k = ys.take k) (hx : k < xs.length) (hy : k < ys.length) (he : xs[k] = ys[k]) : xs.take (k + 1) = ys.take (k + 1) := by
  rw [take_snoc' xs k hx, take_snoc' ys k hy, h, he]
theorem ne_at {xs ys : List Int} {k : Nat} (hx : k < xs.length) (hy : k < ys.length) (he : xs[k] ≠ ys[k]) : xs ≠ ys := by
  intro e; subst e; exact he rfl

theorem ints_drop {w : World} {g o : Nat} {ys : List Int} (h : IntsAt w (some ⟨g, o, none⟩) ys) (c : Nat) : IntsAt w (some ⟨g, o + c, none⟩) (ys.drop c) := by
  by_cases hc : c < ys.length
  · rcases h with rfl | ⟨b, off, e, hcell⟩
    · simp at hc
    · cases e
      refine .inr ⟨g, o + c, rfl, fun j hj => ?_⟩
      simp at hj
      rw [Nat.add_assoc, hcell (c + j) (by omega)]
      simp [List.getD]
  · exact .inl (List.drop_of_length_le (by omega))
end Go.Proofs.YtebklbncfcdkmaaDoor
