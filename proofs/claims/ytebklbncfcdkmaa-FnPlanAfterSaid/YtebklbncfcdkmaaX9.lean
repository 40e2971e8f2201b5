
/-
  The walks of PlaceMoved. No statement is proved here.
-/
import Derived.Test.YtebklbncfcdkmaaX8
namespace Go.Proofs.Ytebklbncfcdkmaa
open Go.RowKit

/-- How many servers of a piece are others. -/
def movedR (p : Int) (a b : List Int) (m : Int) : Int := if placeOk p a m && placeOk p b m then ((goneP (placeR p b m) (placeR p a m)).length : Int) else -1
theorem placeR_valid {p : Int} {xs : List Int} {m : Int} : ∀ x ∈ placeR p xs m, (1 ≤ x ∧ x ≤ 99) ∧ x ∈ xs := by
  intro x hx
  cases h : placeOk p xs m with
  | false => rw [placeR_no h] at hx; cases hx
  | true =>
    rw [placeR_yes h] at hx
    have := rankP_mem.1 (List.mem_of_mem_take hx)
    exact ⟨asc_valid (placeOk_iff.1 h).2.1.2 x this, this⟩
theorem placeR_len (p : Int) (xs : List Int) (m : Int) : (placeR p xs m).length ≤ 8 := by
  cases h : placeOk p xs m with
  | false => rw [placeR_no h]; simp
  | true =>
    obtain ⟨_, ⟨h8, _⟩, h1, h2⟩ := placeOk_iff.1 h
    rw [placeR_yes h, placeP_len p xs _ (by omega)]
    omega

end Go.Proofs.Ytebklbncfcdkmaa
