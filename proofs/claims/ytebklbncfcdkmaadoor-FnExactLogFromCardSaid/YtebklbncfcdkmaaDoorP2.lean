
/-
  Plain facts on neighbours in a view. No program, no statement.
-/
import Derived.Test.YtebklbncfcdkmaaDoorP1
namespace Go.Proofs.YtebklbncfcdkmaaDoor

/-- Places j and j+1 hold both numbers, in any order. -/
def pairAt (xs : List Int) (f t : Int) (j : Nat) : Bool := (xs.getD j 0 == f && xs.getD (j + 1) 0 == t) || (xs.getD j 0 == t && xs.getD (j + 1) 0 == f)
def adj (xs : List Int) (f t : Int) : Bool := (List.range (xs.length - 1)).any fun j => pairAt xs f t j
def takesOk (num : Int) (xs : List Int) (f t n : Int) : Bool := viewOk num xs && decide (num = n) && adj xs f t

theorem adj_yes {xs : List Int} {f t : Int} (j : Nat) (hj : j + 1 < xs.length) (h : pairAt xs f t j = true) : adj xs f t = true := by
  rw [adj, List.any_eq_true]
  exact ⟨j, List.mem_range.2 (by omega), h⟩
theorem adj_no {xs : List Int} {f t : Int} (h : ∀ j, j + 1 < xs.length → pairAt xs f t j = false) : adj xs f t = false := by
  rw [adj, List.any_eq_false]
  intro j hj
  rw [List.mem_range] at hj
  rw [h j (by omega)]
  simp
theorem adj_at {xs : List Int} {f t : Int} (h : adj xs f t = true) : ∃ j, j + 1 < xs.length ∧ pairAt xs f t j = true := by
  rw [adj, List.any_eq_true] at h
  obtain ⟨j, hj, h⟩ := h
  exact ⟨j, by have := List.mem_range.1 hj; omega, h⟩
theorem adj_swap (xs : List Int) (f t : Int) : adj xs t f = adj xs f t := by
  unfold adj
  congr 1
  funext j
  simp only [pairAt]
  rw [Bool.or_comm]

theorem place_of {xs : List Int} (h : xs.Nodup) (i : Nat) (hi : i < xs.length) : place xs xs[i] = i := by
  refine place_at xs _ i hi rfl (fun j hj e => ?_)
  have hj' : j < xs.length := by omega
  have e' : xs[j] = xs[i] := by simpa [hj'] using e
  have := (List.getElem_inj h).1 e'
  omega
theorem place_some {xs : List Int} {n : Int} (h : 0 ≤ place xs n) : ∃ i : Nat, ∃ hi : i < xs.length, xs[i] = n ∧ place xs n = i := by
  by_cases hm : n ∈ xs
  · rw [place, if_pos hm]
    refine ⟨upTo xs n, ?_, ?_, rfl⟩
    · clear h
      induction xs with
      | nil => cases hm
      | cons x r ih =>
        simp only [upTo, List.takeWhile_cons]
        by_cases hx : x = n
        · subst hx; simp
        · have := ih (by rcases List.mem_cons.1 hm with e | e; exact absurd e.symm hx; exact e)
          simp only [upTo] at this
          simp [hx]; exact this
    · clear h
      induction xs with
      | nil => cases hm
      | cons x r ih =>
        by_cases hx : x = n
        · subst hx; simp [upTo]
        · have := ih (by rcases List.mem_cons.1 hm with e | e; exact absurd e.symm hx; exact e)
          have e : upTo (x :: r) n = upTo r n + 1 := by simp [upTo, hx]
          simp [e, this]
  · rw [place, if_neg hm] at h
    omega
theorem place_bd (xs : List Int) (n : Int) : -1 ≤ place xs n ∧ place xs n ≤ xs.length := by
  unfold place
  have := upTo_le xs n
  split <;> omega

/-- The reference's test is the program's. -/
theorem adj_place {xs : List Int} (h : idsOk xs = true) (f t : Int) :
    decide (0 ≤ place xs f ∧ 0 ≤ place xs t ∧ (place xs f + 1 = place xs t ∨ place xs t + 1 = place xs f)) = adj xs f t := by
  have hn : xs.Nodup := by simp only [idsOk, decide_eq_true_eq] at h; exact h.2
  cases ha : adj xs f t with
  | true =>
    obtain ⟨j, hj, hp⟩ := adj_at ha
    have hj0 : j < xs.length := by omega
    have p1 := place_of hn j hj0
    have p2 := place_of hn (j + 1) hj
    simp only [pairAt, Bool.or_eq_true, Bool.and_eq_true, beq_iff_eq, List.getD, List.getElem?_eq_getElem hj, List.getElem?_eq_getElem hj0, Option.getD_some] at hp
    rw [decide_eq_true_eq]
    rcases hp with ⟨e1, e2⟩ | ⟨e1, e2⟩
    · rw [← e1, ← e2, p1, p2]; omega
    · rw [← e1, ← e2, p1, p2]; omega
  | false =>
    rw [decide_eq_false_iff_not]
    rintro ⟨h1, h2, h3⟩
    obtain ⟨i, hi, e1, p1⟩ := place_some h1
    obtain ⟨k, hk, e2, p2⟩ := place_some h2
    have yes : adj xs f t = true := by
      rcases h3 with h3 | h3
      · have hik : k = i + 1 := by omega
        subst hik
        refine adj_yes i hk ?_
        simp only [pairAt, List.getD, List.getElem?_eq_getElem hk, List.getElem?_eq_getElem hi, Option.getD_some, e1, e2]
        simp
      · have hik : i = k + 1 := by omega
        subst hik
        refine adj_yes k hi ?_
        simp only [pairAt, List.getD, List.getElem?_eq_getElem hk, List.getElem?_eq_getElem hi, Option.getD_some, e1, e2]
        simp
    rw [ha] at yes
    cases yes
/-- A node does not take from itself. -/
theorem adj_self {xs : List Int} (h : idsOk xs = true) (f : Int) : adj xs f f = false := by
  rw [← adj_place h, decide_eq_false_iff_not]
  omega
theorem takes_bad1 {num : Int} {xs : List Int} {f t n : Int} (h : viewOk num xs = false) : takesOk num xs f t n = false := by
  rw [takesOk, h]; rfl
theorem takes_bad2 {num : Int} {xs : List Int} {f t n : Int} (h : ¬ num = n) : takesOk num xs f t n = false := by
  rw [takesOk, decide_eq_false h, Bool.and_false]; rfl
theorem takes_adj {num : Int} {xs : List Int} {f t : Int} (h : viewOk num xs = true) : takesOk num xs f t num = adj xs f t := by
  rw [takesOk, h, decide_eq_true rfl]; rfl
theorem viewOk_ids {num : Int} {xs : List Int} (h : viewOk num xs = true) : idsOk xs = true ∧ 1 ≤ xs.length ∧ xs.length ≤ 5 ∧ 0 ≤ num ∧ num ≤ 999 := by
  rw [viewOk, Bool.and_eq_true, decide_eq_true_eq] at h
  exact ⟨h.2, h.1.2.2.1, h.1.2.2.2, h.1.1, h.1.2.1⟩

end Go.Proofs.YtebklbncfcdkmaaDoor
