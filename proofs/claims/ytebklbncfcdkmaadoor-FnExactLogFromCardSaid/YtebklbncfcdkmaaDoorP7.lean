
/-
  Plain facts on bases: run, old, whole. No program, no statement.
-/
import Derived.Test.YtebklbncfcdkmaaDoorP6
namespace Go.Proofs.YtebklbncfcdkmaaDoor

def cnt (s : List Int) : Nat := (s.filter fun v => decide (0 ≤ v)).length
theorem someOf_cnt (s : List Int) : someOf s = cnt s := by rw [someOf, someTo, List.take_length]; rfl
theorem cnt_set_le (s : List Int) (j : Nat) (v : Int) : cnt (s.set j v) ≤ cnt s + 1 := by
  induction s generalizing j with
  | nil => simp [cnt]
  | cons x r ih =>
    cases j with
    | zero =>
      simp only [List.set_cons_zero, cnt, List.filter_cons]
      split <;> split <;> simp <;> omega
    | succ j =>
      have := ih j
      simp only [List.set_cons_succ, cnt, List.filter_cons] at *
      split <;> simp <;> omega
theorem cnt_set_pos (s : List Int) (j : Nat) (v : Int) (hj : j < s.length) (hv : 0 ≤ v) : 0 < cnt (s.set j v) := by
  refine List.length_pos_of_mem (a := v) ?_
  rw [List.mem_filter]
  exact ⟨List.mem_set hj v, by simpa using hv⟩

theorem run_len5 {s : List Int} (us : List Upd) (k : Nat) (h : stateOk s = true) : (runTo s us k).length = 5 := by rw [runTo_len]; exact stateOk_len h
theorem empty5_ok : stateOk empty5 = true := by decide
theorem stateOk_run {s : List Int} {us : List Upd} (hs : stateOk s = true) (h : logOk us = true) : ∀ k, k ≤ us.length → stateOk (runTo s us k) = true
  | 0, _ => hs
  | k + 1, hk => by
    have ih := stateOk_run hs h k (by omega)
    obtain ⟨_, hall⟩ := logOk_all h
    obtain ⟨u1, u2, u3, u4⟩ := updOk_yes (hall k (by omega))
    rw [runTo_succ s us k (by omega)]
    refine stateOk_good (by rw [List.length_set]; exact stateOk_len ih) fun i hi => ?_
    rw [List.getElem_set]
    split
    · exact ⟨by omega, by omega⟩
    · exact stateOk_at ih i (by simpa using hi)
theorem cnt_run {us : List Upd} (h : logOk us = true) : ∀ k, k ≤ us.length → cnt (runTo empty5 us k) ≤ k ∧ (0 < k → 0 < cnt (runTo empty5 us k))
  | 0, _ => ⟨Nat.le_refl _, by omega⟩
  | k + 1, hk => by
    have ih := cnt_run h k (by omega)
    obtain ⟨_, hall⟩ := logOk_all h
    obtain ⟨u1, u2, u3, u4⟩ := updOk_yes (hall k (by omega))
    rw [runTo_succ empty5 us k (by omega)]
    refine ⟨?_, fun _ => ?_⟩
    · have := cnt_set_le (runTo empty5 us k) us[k].1.toNat us[k].2
      omega
    · exact cnt_set_pos _ _ _ (by rw [run_len5 us k empty5_ok]; omega) u3
theorem baseOk_at {us : List Upd} (h : logOk us = true) (k : Nat) (hk : k ≤ us.length) : baseOk k (runTo empty5 us k) = true := by
  obtain ⟨h12, _⟩ := logOk_all h
  have h1 := stateOk_run empty5_ok h k hk
  obtain ⟨h2, h3⟩ := cnt_run h k hk
  have h4 : (0 < ((cnt (runTo empty5 us k) : Nat) : Int)) ↔ 0 < (k : Int) := by
    constructor
    · intro h; omega
    · intro h; have := h3 (by omega); omega
  rw [baseOk, h1, someOf_cnt, decide_eq_true (by omega), decide_eq_true (show ((cnt (runTo empty5 us k) : Nat) : Int) ≤ (k : Int) by omega)]
  simp
  omega
theorem run_app (s : List Int) (us : List Upd) (k : Nat) : runTo (runTo s us k) (us.drop k) (us.drop k).length = runTo s us us.length := by
  unfold runTo
  rw [List.take_length, List.take_length, ← List.foldl_append, List.take_append_drop]
theorem logOk_sub {us vs : List Upd} (h : logOk us = true) (hl : vs.length ≤ us.length) (hm : ∀ u ∈ vs, u ∈ us) : logOk vs = true := by
  rw [logOk, Bool.and_eq_true, decide_eq_true_eq, List.all_eq_true] at *
  exact ⟨by omega, fun u hu => h.2 u (hm u hu)⟩
theorem logOk_drop {us : List Upd} (h : logOk us = true) (k : Nat) : logOk (us.drop k) = true := logOk_sub h (by simp) fun u hu => List.mem_of_mem_drop hu
theorem logOk_take {us : List Upd} (h : logOk us = true) (k : Nat) : logOk (us.take k) = true := logOk_sub h (by simp; omega) fun u hu => List.mem_of_mem_take hu
/-- A key that the log sets has the log's value; another has the old one. -/
theorem run_keys {s : List Int} {us : List Upd} (hs : stateOk s = true) (h : logOk us = true) (i : Nat) (hi : i < 5) : ∀ k, k ≤ us.length →
    (0 ≤ (runTo empty5 us k).getD i 0 → (runTo s us k).getD i 0 = (runTo empty5 us k).getD i 0) ∧ ((runTo empty5 us k).getD i 0 < 0 → (runTo s us k).getD i 0 = s.getD i 0)
  | 0, _ => by
    refine ⟨fun h0 => ?_, fun _ => rfl⟩
    exfalso
    have : empty5.getD i 0 = -1 := by
      match i, hi with
      | 0, _ | 1, _ | 2, _ | 3, _ | 4, _ => rfl
    rw [runTo_zero, this] at h0
    omega
  | k + 1, hk => by
    have ih := run_keys hs h i hi k (by omega)
    obtain ⟨_, hall⟩ := logOk_all h
    obtain ⟨u1, u2, u3, u4⟩ := updOk_yes (hall k (by omega))
    rw [runTo_succ empty5 us k (by omega), runTo_succ s us k (by omega)]
    have l1 := run_len5 us k empty5_ok
    have l2 := run_len5 us k hs
    by_cases hj : us[k].1.toNat = i
    · have e1 : ((runTo empty5 us k).set us[k].1.toNat us[k].2).getD i 0 = us[k].2 := by simp [List.getD, hj, l1, hi]
      have e2 : ((runTo s us k).set us[k].1.toNat us[k].2).getD i 0 = us[k].2 := by simp [List.getD, hj, l2, hi]
      rw [e1, e2]
      exact ⟨fun _ => rfl, fun h => by omega⟩
    · have e1 : ((runTo empty5 us k).set us[k].1.toNat us[k].2).getD i 0 = (runTo empty5 us k).getD i 0 := by simp [List.getD, hj]
      have e2 : ((runTo s us k).set us[k].1.toNat us[k].2).getD i 0 = (runTo s us k).getD i 0 := by simp [List.getD, hj]
      rw [e1, e2]
      exact ih

end Go.Proofs.YtebklbncfcdkmaaDoor
