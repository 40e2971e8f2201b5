
/-
  Plain laws on the view of a chain. No program, no statement.
-/
import Derived.Test.YtgpnbcdboofikaaC5
import Derived.Test.YtgpnbcdboofikaaV2
namespace Go.Proofs.Ytgpnbcdboofikaa
open Go.RowKit

theorem ids_ok {view : Int} {ns : List Nd} (h : chainOk view ns = true) : idsOk (ns.map Nd.id) = true := by
  obtain ⟨_, _, hst, _⟩ := chainOk_iff.1 h
  apply decide_eq_true
  constructor
  · intro x hx
    rw [List.mem_map] at hx
    obtain ⟨n, hn, rfl⟩ := hx
    obtain ⟨i, hi, rfl⟩ := List.getElem_of_mem hn
    have := (nodeOk_parts (hst i hi).1).1
    rw [nd_eq hi] at this
    exact this
  · rw [List.nodup_iff_pairwise_ne, List.pairwise_iff_getElem]
    intro i j hi hj hij
    have := (hst j (by simpa using hj)).2.1 i hij
    rw [nd_eq (by simpa using hi), nd_eq (by simpa using hj)] at this
    simpa using this
theorem view_ok {view : Int} {ns : List Nd} (h : chainOk view ns = true) : viewOk view (ns.map Nd.id) = true := by
  obtain ⟨h1, h2, _, _⟩ := chainOk_iff.1 h
  rw [viewOk_good1 ⟨h1.1, h1.2, by simpa using h2.1, by simpa using h2.2⟩]
  exact ids_ok h
theorem vof_ok {view : Int} {ns : List Nd} (h : chainOk view ns = true) : vofNum view ns = view ∧ vofIds view ns = ns.map Nd.id ∧ viewOk (vofNum view ns) (vofIds view ns) = true := by
  have e1 : vofNum view ns = view := by rw [vofNum, if_pos h]
  have e2 : vofIds view ns = ns.map Nd.id := by rw [vofIds, if_pos h]
  exact ⟨e1, e2, by rw [e1, e2]; exact view_ok h⟩
theorem vof_len {view : Int} {ns : List Nd} : (vofIds view ns).length ≤ 5 := by
  unfold vofIds
  split
  · rename_i h
    have := (chainOk_iff.1 h).2.1
    simp; omega
  · simp

end Go.Proofs.Ytgpnbcdboofikaa
