
/-
  The walk of ChainValid. No statement is proved here.
-/
import Derived.Test.YtebklbncfcdkmaaC2
namespace Go.Proofs.Ytebklbncfcdkmaa
open Go.RowKit

theorem chain_view {view : Int} {ns : List Nd} (h : ¬ (0 ≤ view ∧ view ≤ 999)) : chainOk view ns = false := chainOk_not fun hc => h hc.1
theorem chain_len {view : Int} {ns : List Nd} (h : ¬ (1 ≤ ns.length ∧ ns.length ≤ 5)) : chainOk view ns = false := chainOk_not fun hc => h hc.2.1
theorem chain_step {view : Int} {ns : List Nd} {k : Nat} (hk : k < ns.length) (h : ¬ stepP ns k) : chainOk view ns = false := chainOk_not fun hc => h (hc.2.2.1 k hk)
theorem chain_tail {view : Int} {ns : List Nd} (h : ¬ tailP ns) : chainOk view ns = false := chainOk_not fun hc => h hc.2.2.2
theorem stepP_at {ns : List Nd} {k : Nat} {n : Nd} (h : nd ns k = n) : stepP ns k ↔ nodeOk n.id n.us n.done = true ∧ (∀ j, j < k → (nd ns j).id ≠ n.id) ∧ (0 < k → n.us <+: (nd ns (k - 1)).us ∧ (nd ns (k - 1)).done ≤ n.done) := by
  subst h; exact Iff.rfl
theorem step_all {ns : List Nd} {k : Nat} (h : ∀ i, i < k → stepP ns i) (hk : stepP ns k) : ∀ i, i < k + 1 → stepP ns i := fun i hi => by
  by_cases e : i = k
  · rw [e]; exact hk
  · exact h i (by omega)
theorem place_in' {xs : List Int} {n : Int} (h : n ∈ xs) : 0 ≤ place xs n := by rw [place, if_pos h]; omega
theorem cplace_before {ns : List Nd} {k : Nat} {x : Int} (hk : k < ns.length) (he : (nd ns k).id = x) (h : ¬ ∀ j, j < k → (nd ns j).id ≠ x) : 0 ≤ cplace ns x ∧ cplace ns x < k := by
  have h1 : ∃ j, j < k ∧ (nd ns j).id = x := by
    apply Classical.byContradiction
    intro hc
    exact h fun j hj e => hc ⟨j, hj, e⟩
  obtain ⟨j, hj, e⟩ := h1
  have hl := place_lt (ns.map Nd.id) k (by simpa using hk)
  have ex : (ns.map Nd.id)[k]'(by simpa using hk) = x := by rw [← he, nd_eq hk]; simp
  rw [ex] at hl
  refine ⟨hl.2, hl.1.2 ?_⟩
  rw [← e, nd_eq (by omega)]
  rw [List.mem_take_iff_getElem]
  exact ⟨j, by simp; omega, by simp⟩

/-- Short logs. -/
def Short (ns : List Nd) (m : Nat) : Prop := ∀ n ∈ ns, n.us.length ≤ m
theorem Short.at {ns : List Nd} {m : Nat} (h : Short ns m) {j : Nat} (hj : j < ns.length) : (nd ns j).us.length ≤ m := by rw [nd_eq hj]; exact h _ (List.getElem_mem hj)

end Go.Proofs.Ytebklbncfcdkmaa
