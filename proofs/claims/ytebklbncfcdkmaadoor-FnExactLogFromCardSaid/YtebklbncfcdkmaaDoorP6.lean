
/-
  Plain facts on states and bases. No program, no statement.
-/
import Derived.Test.YtebklbncfcdkmaaDoorP4
namespace Go.Proofs.YtebklbncfcdkmaaDoor

def stateOk (s : List Int) : Bool := decide (s.length = 5) && s.all fun v => decide (-1 ≤ v ∧ v ≤ 99)
def empty5 : List Int := [-1, -1, -1, -1, -1]
/-- A state behind the first k updates. -/
def runTo (s0 : List Int) (us : List Upd) (k : Nat) : List Int := (us.take k).foldl (fun s u => s.set u.1.toNat u.2) s0
theorem runTo_zero (s0 : List Int) (us : List Upd) : runTo s0 us 0 = s0 := rfl
theorem runTo_succ (s0 : List Int) (us : List Upd) (k : Nat) (h : k < us.length) : runTo s0 us (k + 1) = (runTo s0 us k).set us[k].1.toNat us[k].2 := by
  unfold runTo
  rw [takeU_snoc us k h, List.foldl_append]; rfl
theorem runTo_len (s0 : List Int) (us : List Upd) (k : Nat) : (runTo s0 us k).length = s0.length := by
  unfold runTo
  generalize us.take k = l
  induction l generalizing s0 with
  | nil => rfl
  | cons u r ih => rw [List.foldl_cons, ih]; simp
/-- What StateAt gives. -/
def stateAt (us : List Upd) (many : Int) : List Int := if logOk us = true ∧ 0 ≤ many ∧ many ≤ us.length then runTo empty5 us many.toNat else []
theorem stateAt_yes {us : List Upd} {k : Nat} (h : logOk us = true) (hk : k ≤ us.length) : stateAt us k = runTo empty5 us k := by
  rw [stateAt, if_pos ⟨h, by omega, by omega⟩]; rfl
theorem stateAt_no {us : List Upd} {many : Int} (h : ¬ (logOk us = true ∧ 0 ≤ many ∧ many ≤ us.length)) : stateAt us many = [] := if_neg h
theorem stateOk_len {s : List Int} (h : stateOk s = true) : s.length = 5 := by
  rw [stateOk, Bool.and_eq_true, decide_eq_true_eq] at h; exact h.1
theorem stateOk_at {s : List Int} (h : stateOk s = true) (k : Nat) (hk : k < s.length) : -1 ≤ s[k] ∧ s[k] ≤ 99 := by
  rw [stateOk, Bool.and_eq_true, List.all_eq_true] at h
  simpa using h.2 _ (List.getElem_mem hk)
theorem stateOk_bad1 {s : List Int} (h : s.length ≠ 5) : stateOk s = false := by rw [stateOk, decide_eq_false h]; rfl
theorem stateOk_bad2 {s : List Int} (k : Nat) (hk : k < s.length) (h : ¬ (-1 ≤ s[k] ∧ s[k] ≤ 99)) : stateOk s = false := by
  have : (s.all fun v => decide (-1 ≤ v ∧ v ≤ 99)) = false := by
    rw [List.all_eq_false]; exact ⟨s[k], List.getElem_mem hk, by simpa using h⟩
  rw [stateOk, this, Bool.and_false]
theorem stateOk_good {s : List Int} (h : s.length = 5) (ha : ∀ k, (hk : k < s.length) → -1 ≤ s[k] ∧ s[k] ≤ 99) : stateOk s = true := by
  rw [stateOk, decide_eq_true h, Bool.true_and, List.all_eq_true]
  intro v hv
  obtain ⟨k, hk, rfl⟩ := List.getElem_of_mem hv
  simpa using ha k hk

/-- How many of the first k keys have values. -/
def someTo (s : List Int) (k : Nat) : Nat := ((s.take k).filter fun v => decide (0 ≤ v)).length
def someOf (s : List Int) : Nat := someTo s s.length
theorem someTo_succ (s : List Int) (k : Nat) (h : k < s.length) : someTo s (k + 1) = if 0 ≤ s[k] then someTo s k + 1 else someTo s k := by
  unfold someTo
  rw [List.take_succ_eq_append_getElem h, List.filter_append]
  by_cases hs : 0 ≤ s[k] <;> simp [hs]
theorem someTo_le (s : List Int) (k : Nat) : someTo s k ≤ k := Nat.le_trans (List.length_filter_le _ _) (List.length_take_le _ _)
def baseOk (many : Int) (s : List Int) : Bool := decide (0 ≤ many ∧ many ≤ 999) && stateOk s && decide ((someOf s : Int) ≤ many) && (decide (0 < (someOf s : Int)) == decide (0 < many))

end Go.Proofs.YtebklbncfcdkmaaDoor
