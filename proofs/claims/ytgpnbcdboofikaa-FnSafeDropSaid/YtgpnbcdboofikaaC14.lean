
/-
  Plain laws on what is safe. No program, no statement.
-/
import Derived.Test.YtgpnbcdboofikaaC12
namespace Go.Proofs.Ytgpnbcdboofikaa
open Go.RowKit

theorem field_log (x : Value) (a : Option Addr) (n c : Nat) (y : Value) (w : World) : (Instr.field 32 (.agg #[x, .slice a n c, y]) 1).run Try.prog w = .ok (.slice a n c) w := by kernel_rfl
theorem above_vec (L : Nat) (f : Nat → Nat) (t : Int) : ((vec L f).filter fun c => decide (t < c)).length = ((List.range L).filter fun j => decide (t < (f j : Int))).length := by
  unfold vec
  rw [List.filter_map, List.length_map]
  rfl
theorem range_all {L : Nat} {p : Nat → Bool} (h : ∀ j, j < L → p j = true) : ((List.range L).filter p).length = L := by
  rw [List.filter_eq_self.2 fun j hj => h j (List.mem_range.1 hj)]; simp
theorem range_some {L l : Nat} {p : Nat → Bool} (hl : l ≤ L) (h : ∀ j, j < l → p j = true) : l ≤ ((List.range L).filter p).length := by
  induction L with
  | zero => omega
  | succ L ih =>
    rw [List.range_succ, List.filter_append, List.length_append]
    by_cases e : l = L + 1
    · subst e
      have h1 := range_all (L := L) (p := p) fun j hj => h j (by omega)
      rw [h1]
      simp [h L (by omega)]
    · have := ih (by omega)
      omega
theorem range_less {L l : Nat} {p : Nat → Bool} (h : ∀ j, j < L → p j = true → j < l) : ((List.range L).filter p).length ≤ l := by
  induction L with
  | zero => simp
  | succ L ih =>
    rw [List.range_succ, List.filter_append, List.length_append]
    by_cases hp : p L = true
    · have h1 := h L (by omega) hp
      have h2 : ((List.range L).filter p).length ≤ L := by
        have := List.length_filter_le p (List.range L)
        simpa using this
      simp [hp]
      omega
    · have h1 := ih fun j hj => h j (by omega)
      simp [hp]
      simpa using h1
theorem range_mono {L : Nat} {p q : Nat → Bool} (h : ∀ j, p j = true → q j = true) : ((List.range L).filter p).length ≤ ((List.range L).filter q).length := by
  induction L with
  | zero => simp
  | succ L ih =>
    rw [List.range_succ, List.filter_append, List.filter_append, List.length_append, List.length_append]
    by_cases hp : p L = true
    · simp [hp, h L hp]; exact ih
    · have : (List.filter p [L]).length = 0 := by simp [hp]
      omega
theorem safe_eq {view : Int} {ns : List Nd} {fail : Int} (h : chainOk view ns = true) (h1 : 0 ≤ fail) (h2 : fail < ns.length) : safeOf view ns fail = ((List.range (nd ns 0).us.length).filter fun j => decide (fail < (cnt ns j : Int))).length := by
  rw [safe_good h h1 h2, copiesOf, if_pos h, above_vec]
theorem safe_ok {view : Int} {ns : List Nd} {fail : Int} (h : ¬ safeOf view ns fail < 0) : chainOk view ns = true ∧ 0 ≤ fail ∧ fail < ns.length := by
  apply Classical.byContradiction
  intro hc
  rw [safeOf, if_neg hc] at h
  exact h (by omega)
theorem safe_zero {view : Int} {ns : List Nd} (h : chainOk view ns = true) : safeOf view ns 0 = (nd ns 0).us.length := by
  have hn := (chainOk_iff.1 h).2.1
  rw [safe_eq h (by omega) (by omega), range_all]
  intro j hj
  have := cnt_pos (ns := ns) (i := 0) (by omega) hj
  simp
  omega
theorem safe_mono {view : Int} {ns : List Nd} {fail : Int} (h : chainOk view ns = true) (h1 : 0 ≤ fail) (h2 : fail < ns.length) : safeOf view ns (fail + 1) = -1 ∨ safeOf view ns (fail + 1) ≤ safeOf view ns fail := by
  by_cases h3 : fail + 1 < ns.length
  · right
    rw [safe_eq h h1 h2, safe_eq h (by omega) h3]
    have := range_mono (L := (nd ns 0).us.length) (p := fun j => decide (fail + 1 < (cnt ns j : Int))) (q := fun j => decide (fail < (cnt ns j : Int))) (fun j hj => by simp at hj ⊢; omega)
    omega
  · left
    exact safe_bad2 fun hc => h3 hc.2
theorem safe_tail {view : Int} {ns : List Nd} {fail : Int} (h : chainOk view ns = true) (h1 : 0 ≤ fail) (h2 : fail < ns.length) : ((nd ns (ns.length - 1)).us.length : Int) ≤ safeOf view ns fail := by
  have hn := (chainOk_iff.1 h).2.1
  have hs := chain_shrinks h 0 (ns.length - 1) (by omega)
  rw [Nat.zero_add] at hs
  rw [safe_eq h h1 h2]
  have := range_some (L := (nd ns 0).us.length) (l := (nd ns (ns.length - 1)).us.length) (p := fun j => decide (fail < (cnt ns j : Int))) hs (fun j hj => by
    have := (cnt_full h j).2 hj
    simp
    omega)
  omega
theorem safe_bd {view : Int} {ns : List Nd} {fail : Int} : -1 ≤ safeOf view ns fail ∧ safeOf view ns fail ≤ 12 := by
  unfold safeOf
  split
  · have := List.length_filter_le (fun c => decide (fail < c)) (copiesOf view ns)
    have := copies_len (view := view) (ns := ns)
    omega
  · omega
theorem one_safe {view : Int} {ns : List Nd} (h : chainOk view ns = true) (h2 : 1 < ns.length) : safeOf view ns 1 ≤ (nd ns 1).us.length := by
  rw [safe_eq h (by omega) (by omega)]
  have := range_less (L := (nd ns 0).us.length) (l := (nd ns 1).us.length) (p := fun j => decide ((1 : Int) < (cnt ns j : Int))) (fun j hj hp => by
    apply Classical.byContradiction
    intro hc
    have hle : cnt ns j ≤ 1 := by
      cases ns with
      | nil => simp at h2
      | cons n r =>
        rw [cnt_cons]
        have hr : cnt r j = 0 := by
          unfold cnt
          rw [List.length_eq_zero_iff, List.filter_eq_nil_iff]
          intro x hx
          obtain ⟨i, hi, rfl⟩ := List.getElem_of_mem hx
          have h3 := chain_shrinks h 1 i (by simp; omega)
          have e : nd (n :: r) (1 + i) = r[i] := by rw [show 1 + i = i + 1 by omega]; simp [nd, hi]
          rw [e] at h3
          simp
          omega
        rw [hr]
        split <;> omega
    simp at hp
    omega)
  omega

end Go.Proofs.Ytgpnbcdboofikaa
