
/-
  The walk of the reference's ChainValid. No statement is proved here.
-/
import Derived.Test.YtebklbncfcdkmaaC3
import Derived.Test.YtebklbncfcdkmaaGw
namespace Go.Proofs.Ytebklbncfcdkmaa
open Go.RowKit

theorem nd_take {ns : List Nd} {k j : Nat} (h : j < k) : nd (ns.take k) j = nd ns j := by
  simp [nd, List.getD, h]
theorem has_first {ns : List Nd} {k : Nat} {x : Int} (h : ∀ j, j < k → (nd ns j).id ≠ x) : decide (0 ≤ cplace (ns.take k) x) = false := by
  rw [cplace_none fun j hj => ?_]
  · rfl
  · have : j < k := by simp at hj; omega
    rw [nd_take this]; exact h j this
theorem has_again {ns : List Nd} {k : Nat} {x : Int} (hk : k ≤ ns.length) (h : ¬ ∀ j, j < k → (nd ns j).id ≠ x) : decide (0 ≤ cplace (ns.take k) x) = true := by
  apply decide_eq_true
  apply Classical.byContradiction
  intro hc
  apply h
  intro j hj e
  apply hc
  have hm : x ∈ (ns.take k).map Nd.id := by
    rw [← e, List.mem_map]
    refine ⟨nd ns j, ?_, rfl⟩
    rw [nd_eq (by omega), List.mem_take_iff_getElem]
    exact ⟨j, by omega, rfl⟩
  exact place_in' hm
theorem ncells_take (ns : List Nd) (k : Nat) : (ncells ns).take (k * 3) = ncells (ns.take k) := by
  induction ns generalizing k with
  | nil => simp [ncells]
  | cons n r ih =>
    cases k with
    | zero => simp [ncells]
    | succ k =>
      rw [ncells_cons, show (k + 1) * 3 = k * 3 + 1 + 1 + 1 by omega, List.take_succ_cons, List.take_succ_cons, List.take_succ_cons, ih, List.take_succ_cons, ncells_cons]
theorem cells_take {w : World} {a : Option Addr} {cs : List Value} (h : CellsAt w a cs) (m : Nat) : CellsAt w a (cs.take m) := by
  rcases h with rfl | ⟨b, off, rfl, hc⟩
  · exact .inl (by simp)
  · refine .inr ⟨b, off, rfl, fun j hj => ?_⟩
    simp at hj
    rw [hc j (by omega), List.getElem?_take, if_pos (by omega)]

end Go.Proofs.Ytebklbncfcdkmaa
