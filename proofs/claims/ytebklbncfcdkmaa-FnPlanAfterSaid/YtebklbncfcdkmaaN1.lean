
/-
  The walks of the functions on nodes: valid, copyLog, pending. No statement is proved here.
-/
import Derived.Test.YtebklbncfcdkmaaU2
import Derived.Test.YtebklbncfcdkmaaCp
import Derived.Test.YtebklbncfcdkmaaSl
import Derived.Laws.OwnMore
namespace Go.Proofs.Ytebklbncfcdkmaa
open Go.RowKit

def nodeOk (id : Int) (us : List Upd) (done : Int) : Bool := decide (1 ≤ id ∧ id ≤ 99) && logOk us && decide (0 ≤ done ∧ done ≤ us.length)
theorem nodeOk_bad1 {id : Int} {us : List Upd} {done : Int} (h : ¬ (1 ≤ id ∧ id ≤ 99)) : nodeOk id us done = false := by rw [nodeOk, decide_eq_false h]; rfl
theorem nodeOk_bad2 {id : Int} {us : List Upd} {done : Int} (h : logOk us = false) : nodeOk id us done = false := by rw [nodeOk, h, Bool.and_false]; rfl
theorem nodeOk_bad3 {id : Int} {us : List Upd} {done : Int} (h : ¬ (0 ≤ done ∧ done ≤ us.length)) : nodeOk id us done = false := by rw [nodeOk, decide_eq_false h, Bool.and_false]
theorem nodeOk_good {id : Int} {us : List Upd} {done : Int} (h1 : 1 ≤ id ∧ id ≤ 99) (h2 : logOk us = true) (h3 : 0 ≤ done ∧ done ≤ us.length) : nodeOk id us done = true := by rw [nodeOk, decide_eq_true h1, h2, decide_eq_true h3]; rfl
theorem nodeOk_parts {id : Int} {us : List Upd} {done : Int} (h : nodeOk id us done = true) : (1 ≤ id ∧ id ≤ 99) ∧ logOk us = true ∧ 0 ≤ done ∧ done ≤ us.length := by
  rw [nodeOk, Bool.and_eq_true, Bool.and_eq_true, decide_eq_true_eq, decide_eq_true_eq] at h
  exact ⟨h.1.1, h.1.2, h.2⟩

theorem all_upd (us : List Upd) : ∀ v ∈ ucells us, v.oneCell' = true := by
  intro v hv
  simp only [ucells, List.mem_flatMap] at hv
  obtain ⟨u, _, hu⟩ := hv
  simp at hu
  rcases hu with rfl | rfl <;> rfl

end Go.Proofs.Ytebklbncfcdkmaa
