
/-
  Plain facts on the next view. No program, no statement.
-/
import Derived.Test.YtgpnbcdboofikaaP2
namespace Go.Proofs.Ytgpnbcdboofikaa

def keptIds (xs failed : List Int) : List Int := xs.filter fun x => !decide (x ∈ failed)
def freshOk (xs fresh : List Int) : Bool := fresh.all fun x => !decide (x ∈ xs)
def nextOk (num : Int) (xs failed fresh : List Int) : Bool := viewOk num xs && freshOk xs fresh && viewOk (num + 1) (keptIds xs failed ++ fresh)
/-- The ids and the number of the next view, or nothing. -/
def nextIds (num : Int) (xs failed fresh : List Int) : List Int := if nextOk num xs failed fresh = true then keptIds xs failed ++ fresh else []
def nextNum (num : Int) (xs failed fresh : List Int) : Int := if nextOk num xs failed fresh = true then num + 1 else 0

theorem kept_snoc (xs failed : List Int) (x : Int) : keptIds (xs ++ [x]) failed = if x ∈ failed then keptIds xs failed else keptIds xs failed ++ [x] := by
  simp only [keptIds, List.filter_append]
  by_cases h : x ∈ failed <;> simp [h]
theorem kept_len (xs failed : List Int) : (keptIds xs failed).length ≤ xs.length := List.length_filter_le _ _
theorem freshOk_snoc (xs fresh : List Int) (x : Int) : freshOk xs (fresh ++ [x]) = (freshOk xs fresh && !decide (x ∈ xs)) := by
  simp [freshOk, List.all_append]
theorem freshOk_take {xs fresh : List Int} {k : Nat} (h : freshOk xs (fresh.take k) = false) : freshOk xs fresh = false := by
  cases hx : freshOk xs fresh with
  | false => rfl
  | true =>
    have : freshOk xs (fresh.take k) = true := by
      simp only [freshOk, List.all_eq_true] at hx ⊢
      exact fun y hy => hx y (List.mem_of_mem_take hy)
    rw [this] at h; cases h
theorem next_bad1 {num : Int} {xs failed fresh : List Int} (h : viewOk num xs = false) : nextOk num xs failed fresh = false := by rw [nextOk, h]; rfl
theorem next_bad2 {num : Int} {xs failed fresh : List Int} (h : freshOk xs fresh = false) : nextOk num xs failed fresh = false := by rw [nextOk, h]; simp
theorem next_bad3 {num : Int} {xs failed fresh : List Int} (h : viewOk (num + 1) (keptIds xs failed ++ fresh) = false) : nextOk num xs failed fresh = false := by rw [nextOk, h]; simp
theorem next_bad4 {num : Int} {xs failed fresh : List Int} (h : ¬ fresh.length ≤ 5) : nextOk num xs failed fresh = false := by
  refine next_bad3 ?_
  rw [viewOk, decide_eq_false]
  · rfl
  · simp only [List.length_append]; omega
theorem next_good {num : Int} {xs failed fresh : List Int} (h1 : viewOk num xs = true) (h2 : freshOk xs fresh = true) (h3 : viewOk (num + 1) (keptIds xs failed ++ fresh) = true) : nextOk num xs failed fresh = true := by rw [nextOk, h1, h2, h3]; rfl
theorem nextIds_bad {num : Int} {xs failed fresh : List Int} (h : nextOk num xs failed fresh = false) : nextIds num xs failed fresh = [] ∧ nextNum num xs failed fresh = 0 := by
  simp [nextIds, nextNum, h]
theorem nextIds_good {num : Int} {xs failed fresh : List Int} (h : nextOk num xs failed fresh = true) : nextIds num xs failed fresh = keptIds xs failed ++ fresh ∧ nextNum num xs failed fresh = num + 1 := by
  simp [nextIds, nextNum, h]

theorem idsOk_mem {xs : List Int} (h : idsOk xs = true) (x : Int) (hx : x ∈ xs) : 1 ≤ x ∧ x ≤ 99 := by
  simp only [idsOk, decide_eq_true_eq] at h
  exact h.1 x hx

end Go.Proofs.Ytgpnbcdboofikaa
