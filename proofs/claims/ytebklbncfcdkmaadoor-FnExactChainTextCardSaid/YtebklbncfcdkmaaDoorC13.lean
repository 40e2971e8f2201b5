
/-
  The walk of copyNode, and words on what a chain holds. No statement is proved here.
-/
import Derived.Test.YtebklbncfcdkmaaDoorC12
import Derived.Test.YtebklbncfcdkmaaDoorC10
import Derived.Test.YtebklbncfcdkmaaDoorJn
namespace Go.Proofs.YtebklbncfcdkmaaDoor
open Go.RowKit

/-- What a node holds. -/
abbrev Key := Int × List Upd × Int
def keyOf (n : Nd) : Key := (n.id, n.us, n.done)
def keys (ns : List Nd) : List Key := ns.map keyOf
theorem keys_len (ns : List Nd) : (keys ns).length = ns.length := by simp [keys]
theorem keys_nd {ns ms : List Nd} (h : keys ns = keys ms) (i : Nat) : (nd ns i).id = (nd ms i).id ∧ (nd ns i).us = (nd ms i).us ∧ (nd ns i).done = (nd ms i).done := by
  have hl : ns.length = ms.length := by rw [← keys_len ns, h, keys_len]
  by_cases hi : i < ns.length
  · have h1 : (keys ns)[i]? = (keys ms)[i]? := by rw [h]
    rw [keys, keys, List.getElem?_map, List.getElem?_map, List.getElem?_eq_getElem hi, List.getElem?_eq_getElem (hl ▸ hi)] at h1
    simp only [Option.map_some, Option.some.injEq, keyOf, Prod.mk.injEq] at h1
    rw [nd_eq hi, nd_eq (hl ▸ hi)]
    exact h1
  · have e1 : nd ns i = default := by simp [nd, hi]
    have e2 : nd ms i = default := by simp [nd, show ¬ i < ms.length by omega]
    rw [e1, e2]; exact ⟨rfl, rfl, rfl⟩
theorem keys_nd_of {ns ms : List Nd} (hl : ns.length = ms.length) (h : ∀ i, i < ns.length → (nd ns i).id = (nd ms i).id ∧ (nd ns i).us = (nd ms i).us ∧ (nd ns i).done = (nd ms i).done) : keys ns = keys ms := by
  apply List.ext_getElem
  · simp [keys, hl]
  · intro i h1 h2
    have hi : i < ns.length := by simpa [keys] using h1
    have := h i hi
    rw [nd_eq hi, nd_eq (hl ▸ hi)] at this
    simp only [keys, List.getElem_map, keyOf]
    rw [this.1, this.2.1, this.2.2]
theorem chain_keys {view : Int} {ns ms : List Nd} (h : keys ns = keys ms) : chainOk view ns = chainOk view ms := by
  have hl : ns.length = ms.length := by rw [← keys_len ns, h, keys_len]
  have hk := keys_nd h
  have e : chainP view ns ↔ chainP view ms := by
    unfold chainP stepP tailP
    simp only [(hk _).1, (hk _).2.1, (hk _).2.2, hl]
  cases h1 : chainOk view ns with
  | true => exact (chainOk_yes (e.1 (chainOk_iff.1 h1))).symm
  | false =>
    refine (chainOk_not fun hc => ?_).symm
    rw [chainOk_yes (e.2 hc)] at h1
    cases h1

end Go.Proofs.YtebklbncfcdkmaaDoor
