
/-
  Plain facts on logs: validity, the numbers of a key's updates, counts. No program, no statement.
-/
import Derived.WalkKit
namespace Go.Proofs.YtebklbncfcdkmaaDoor

abbrev Upd := Int × Int
def updOk (u : Upd) : Bool := decide (0 ≤ u.1 ∧ u.1 ≤ 4 ∧ 0 ≤ u.2 ∧ u.2 ≤ 99)
def logOk (us : List Upd) : Bool := decide (us.length ≤ 12) && us.all updOk
theorem updOk_yes {u : Upd} (h : updOk u = true) : 0 ≤ u.1 ∧ u.1 ≤ 4 ∧ 0 ≤ u.2 ∧ u.2 ≤ 99 := by simpa [updOk] using h
theorem logOk_long {us : List Upd} (h : ¬ us.length ≤ 12) : logOk us = false := by rw [logOk, decide_eq_false h]; rfl
theorem logOk_bad {us : List Upd} (k : Nat) (hk : k < us.length) (h : updOk us[k] = false) : logOk us = false := by
  have : us.all updOk = false := by
    rw [List.all_eq_false]
    exact ⟨us[k], List.getElem_mem hk, by simp [h]⟩
  rw [logOk, this, Bool.and_false]
theorem logOk_good {us : List Upd} (h : us.length ≤ 12) (ha : us.all updOk = true) : logOk us = true := by rw [logOk, decide_eq_true h, ha]; rfl
theorem logOk_all {us : List Upd} (h : logOk us = true) : us.length ≤ 12 ∧ ∀ k, (hk : k < us.length) → updOk us[k] = true := by
  rw [logOk, Bool.and_eq_true, decide_eq_true_eq, List.all_eq_true] at h
  exact ⟨h.1, fun k hk => h.2 _ (List.getElem_mem hk)⟩
theorem takeU_snoc (us : List Upd) (k : Nat) (h : k < us.length) : us.take (k + 1) = us.take k ++ [us[k]] := by rw [List.take_succ_eq_append_getElem h]
theorem allU_snoc {us : List Upd} {k : Nat} (h : k < us.length) (ha : (us.take k).all updOk = true) (hu : updOk us[k] = true) : (us.take (k + 1)).all updOk = true := by
  rw [takeU_snoc us k h, List.all_append, ha]; simp [hu]

/-- The numbers, from 1 on, of a key's updates among the first k. -/
def keysTo (us : List Upd) (key : Int) (k : Nat) : List Int := ((List.range k).filter fun (i : Nat) => (us.getD i (0, 0)).1 == key).map fun (i : Nat) => (i : Int) + 1
theorem keysTo_zero (us : List Upd) (key : Int) : keysTo us key 0 = [] := rfl
theorem keysTo_succ (us : List Upd) (key : Int) (k : Nat) (hk : k < us.length) : keysTo us key (k + 1) = if us[k].1 = key then keysTo us key k ++ [(k : Int) + 1] else keysTo us key k := by
  have e : us.getD k (0, 0) = us[k] := by simp [hk]
  unfold keysTo
  rw [List.range_succ, List.filter_append, List.map_append]
  by_cases h : us[k].1 = key
  · rw [if_pos h, List.filter_cons, e, if_pos (by simpa using h)]; rfl
  · rw [if_neg h, List.filter_cons, e, if_neg (by simpa using h)]; simp
theorem keysTo_le (us : List Upd) (key : Int) (k : Nat) : (keysTo us key k).length ≤ k := by
  unfold keysTo
  rw [List.length_map]
  exact Nat.le_trans (List.length_filter_le _ _) (by simp)
/-- What LogKey gives. -/
def keysOf (us : List Upd) (key : Int) : List Int := if logOk us = true then keysTo us key us.length else []
/-- How many of the first k updates each key has. -/
def countsTo (us : List Upd) (k : Nat) : List Int := (List.range 5).map fun (key : Nat) => ((keysTo us key k).length : Int)
def countsOf (us : List Upd) : List Int := if logOk us = true then countsTo us us.length else []
theorem countsTo_len (us : List Upd) (k : Nat) : (countsTo us k).length = 5 := by simp [countsTo]
theorem countsTo_zero (us : List Upd) : countsTo us 0 = [0, 0, 0, 0, 0] := rfl
theorem countsTo_at (us : List Upd) (k j : Nat) (hj : j < 5) : (countsTo us k)[j]? = some ((keysTo us j k).length : Int) := by
  simp [countsTo, hj]
theorem countsTo_succ (us : List Upd) (k j : Nat) (hk : k < us.length) (hj : j < 5) (he : us[k].1 = j) : countsTo us (k + 1) = (countsTo us k).set j ((keysTo us j k).length + 1) := by
  apply List.ext_getElem?
  intro i
  by_cases hi : i < 5
  · rw [countsTo_at us (k + 1) i hi, List.getElem?_set, keysTo_succ us i k hk]
    by_cases e : j = i
    · subst e
      rw [if_pos rfl, if_pos he, if_pos (by rw [countsTo_len]; exact hj)]
      simp
    · rw [if_neg e, countsTo_at us k i hi, if_neg (by rw [he]; omega)]
  · rw [List.getElem?_eq_none (by rw [countsTo_len]; omega), List.getElem?_eq_none (by rw [List.length_set, countsTo_len]; omega)]
theorem counts_sum (us : List Upd) (hu : ∀ k, (hk : k < us.length) → updOk us[k] = true) (k : Nat) (hk : k ≤ us.length) : (countsTo us k).sum = k := by
  induction k with
  | zero => rfl
  | succ k ih =>
    have hk' : k < us.length := by omega
    have h := updOk_yes (hu k hk')
    obtain ⟨j, hj⟩ := Int.eq_ofNat_of_zero_le h.1
    have hj5 : j < 5 := by omega
    have ih' := ih (by omega)
    have hs := countsTo_succ us k j hk' hj5 hj
    have hat := countsTo_at us k j hj5
    rw [hs]
    have hl := countsTo_len us k
    generalize countsTo us k = l at *
    match l, hl with
    | [a, b, c, d, e], _ =>
      simp only [List.sum_cons, List.sum_nil] at ih'
      match j, hj5 with
      | 0, _ => simp at hat ⊢; omega
      | 1, _ => simp at hat ⊢; omega
      | 2, _ => simp at hat ⊢; omega
      | 3, _ => simp at hat ⊢; omega
      | 4, _ => simp at hat ⊢; omega

end Go.Proofs.YtebklbncfcdkmaaDoor
