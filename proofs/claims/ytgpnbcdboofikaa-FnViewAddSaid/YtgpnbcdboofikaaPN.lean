
/-
  Plain facts on the next view that the laws ask for. No program, no statement.
-/
import Derived.Test.YtgpnbcdboofikaaP3
namespace Go.Proofs.Ytgpnbcdboofikaa

theorem nextGood (num : Int) (xs failed fresh : List Int) : nextOk num xs failed fresh = true → nextNum num xs failed fresh = num + 1 ∧ nextIds num xs failed fresh = keptIds xs failed ++ fresh ∧ viewOk num xs = true ∧ viewOk (num + 1) (keptIds xs failed ++ fresh) = true := by
  intro h
  obtain ⟨e1, e2⟩ := nextIds_good h
  rw [nextOk, Bool.and_eq_true, Bool.and_eq_true] at h
  exact ⟨e2, e1, h.1.1, h.2⟩
theorem nextLen (num : Int) (xs failed fresh : List Int) : (nextIds num xs failed fresh).length ≤ xs.length + fresh.length := by
  unfold nextIds
  split
  · have := kept_len xs failed
    simp; omega
  · simp
theorem kept_at {xs failed fresh : List Int} {i : Nat} (hi : i < xs.length) (h : xs[i] ∉ failed) :
    (keptIds (xs.take i) failed).length < (keptIds xs failed ++ fresh).length ∧ (keptIds xs failed ++ fresh)[(keptIds (xs.take i) failed).length]? = some xs[i] := by
  have hx : xs = xs.take i ++ xs[i] :: xs.drop (i + 1) := by rw [← List.drop_eq_getElem_cons hi, List.take_append_drop]
  have e : keptIds xs failed = keptIds (xs.take i) failed ++ xs[i] :: keptIds (xs.drop (i + 1)) failed := by
    have e0 : keptIds xs failed = keptIds (xs.take i ++ xs[i] :: xs.drop (i + 1)) failed := congrArg (keptIds · failed) hx
    rw [e0]
    unfold keptIds
    rw [List.filter_append, List.filter_cons, if_pos (by simp [h])]
  rw [e]
  refine ⟨by simp, ?_⟩
  rw [List.append_assoc, List.getElem?_append_right (Nat.le_refl _)]
  simp
theorem kept_tail (xs failed fresh : List Int) : (keptIds xs failed ++ fresh).drop (keptIds xs failed).length = fresh := by simp
theorem next_failed {xs failed fresh : List Int} {x : Int} (h : x ∈ keptIds xs failed ++ fresh) (hf : x ∈ failed) : x ∈ fresh := by
  rcases List.mem_append.1 h with h | h
  · simp [keptIds] at h
    exact absurd hf h.2
  · exact h

end Go.Proofs.Ytgpnbcdboofikaa
