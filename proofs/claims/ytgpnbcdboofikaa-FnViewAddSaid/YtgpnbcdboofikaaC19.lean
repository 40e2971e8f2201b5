
/-
  Plain laws: the view behind a chain that a node has left. No program, no statement.
-/
import Derived.Test.YtgpnbcdboofikaaC16
import Derived.Test.YtgpnbcdboofikaaC15
import Derived.Test.YtgpnbcdboofikaaP3
namespace Go.Proofs.Ytgpnbcdboofikaa
open Go.RowKit

theorem fixTail_us (ns : List Nd) (i : Nat) : (nd (fixTail ns) i).us = (nd ns i).us := by
  unfold fixTail
  by_cases h : ns.length - 1 < ns.length
  · rw [nd_set i h]
    by_cases e : ns.length - 1 = i
    · rw [if_pos e, e]
    · rw [if_neg e]
  · rw [List.set_eq_of_length_le (by omega)]
theorem map_id_set (ns : List Nd) (i : Nat) (n : Nd) (h : n.id = (nd ns i).id) : (ns.set i n).map Nd.id = ns.map Nd.id := by
  apply List.ext_getElem?
  intro j
  rw [List.getElem?_map, List.getElem?_map, List.getElem?_set]
  by_cases e : i = j
  · subst e
    by_cases hi : i < ns.length
    · rw [if_pos rfl, if_pos hi, List.getElem?_eq_getElem hi]
      simp [h, nd_eq hi]
    · rw [if_pos rfl, if_neg hi, List.getElem?_eq_none (by omega)]
  · rw [if_neg e]
theorem fixTail_ids (ns : List Nd) : (fixTail ns).map Nd.id = ns.map Nd.id := map_id_set _ _ _ rfl
theorem keys_ids {ns ms : List Nd} (h : keys ns = keys ms) : ns.map Nd.id = ms.map Nd.id := by
  have := congrArg (List.map (fun k : Key => k.1)) h
  simpa [keys, keyOf, List.map_map, Function.comp_def] using this
theorem chain_short {view : Int} {ns : List Nd} (h : chainOk view ns = true) : ns.length ≤ 5 ∧ Short ns 12 := by
  obtain ⟨_, hn, hst, _⟩ := chainOk_iff.1 h
  refine ⟨hn.2, fun n hn => ?_⟩
  obtain ⟨i, hi, rfl⟩ := List.getElem_of_mem hn
  have := nodeOk_parts (hst i hi).1
  rw [nd_eq hi] at this
  have h1 := this.2.1
  rw [logOk, Bool.and_eq_true, decide_eq_true_eq] at h1
  exact h1.1
theorem kept_first {x : Int} {r : List Int} (h : (x :: r).Nodup) : keptIds (x :: r) [x] = r := by
  unfold keptIds
  rw [List.filter_cons]
  simp only [List.mem_singleton, decide_true, Bool.not_true, Bool.false_eq_true, if_false]
  rw [List.filter_eq_self]
  intro y hy
  have := (List.nodup_cons.1 h).1
  have hne : y ≠ x := fun e => this (e ▸ hy)
  simp [hne]
theorem drop_next {view : Int} {ns ms : List Nd} (h : chainOk view ns = true) (hd : dropOk view ns (nd ns 0).id = true) (hk : keys ms = dropKeys view ns (nd ns 0).id) :
    chainOk (view + 1) ms = true ∧ vofNum (view + 1) ms = view + 1 ∧ vofIds (view + 1) ms = nextIds view (ns.map Nd.id) [(nd ns 0).id] [] ∧ nextOk view (ns.map Nd.id) [(nd ns 0).id] [] = true ∧ nextNum view (ns.map Nd.id) [(nd ns 0).id] [] = view + 1 ∧ dropNum view ns (nd ns 0).id = view + 1 := by
  have hn := (chainOk_iff.1 h).2.1
  have hp : cplace ns (nd ns 0).id = 0 := by rw [cplace_at 0 (by omega) rfl (fun j hj => by omega)]; rfl
  have hnum : dropNum view ns (nd ns 0).id = view + 1 := by rw [dropNum, if_pos hd]
  rw [dropKeys, if_pos hd, hp] at hk
  rw [dropOk, hp, Bool.and_eq_true] at hd
  have hc : chainOk (view + 1) ms = true := by rw [chain_keys hk]; exact hd.2
  have hids : ms.map Nd.id = (ns.map Nd.id).eraseIdx 0 := by
    rw [keys_ids hk]
    show (fixTail _).map Nd.id = _
    rw [fixTail_ids]
    cases ns <;> simp
  have hkept : keptIds (ns.map Nd.id) [(nd ns 0).id] = (ns.map Nd.id).eraseIdx 0 := by
    have hnd := (of_decide_eq_true (ids_ok h)).2
    cases ns with
    | nil => simp at hn
    | cons n r =>
      have e : (nd (n :: r) 0).id = n.id := rfl
      rw [e]
      simp only [List.map_cons] at hnd ⊢
      rw [kept_first hnd]
      rfl
  have hok : nextOk view (ns.map Nd.id) [(nd ns 0).id] [] = true := by
    rw [nextOk, view_ok h, hkept, List.append_nil, ← hids, view_ok hc]
    rfl
  refine ⟨hc, by rw [vofNum, if_pos hc], ?_, hok, by rw [nextNum, if_pos hok], hnum⟩
  rw [vofIds, if_pos hc, nextIds, if_pos hok, hkept, List.append_nil, hids]

end Go.Proofs.Ytgpnbcdboofikaa
