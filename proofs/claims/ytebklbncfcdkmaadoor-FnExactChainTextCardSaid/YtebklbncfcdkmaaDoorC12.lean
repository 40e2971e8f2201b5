
/-
  Plain laws on the counts of copies. No program, no statement.
-/
import Derived.Test.YtebklbncfcdkmaaDoorC8
namespace Go.Proofs.YtebklbncfcdkmaaDoor
open Go.RowKit

theorem cnt_anti (ns : List Nd) {j k : Nat} (h : j ≤ k) : cnt ns k ≤ cnt ns j := by
  induction ns with
  | nil => exact Nat.le_refl _
  | cons n r ih =>
    rw [cnt_cons, cnt_cons]
    by_cases h1 : k < n.us.length
    · rw [if_pos h1, if_pos (by omega)]; omega
    · rw [if_neg h1]; split <;> omega
theorem cnt_pos {ns : List Nd} {j i : Nat} (hi : i < ns.length) (h : j < (nd ns i).us.length) : 1 ≤ cnt ns j := by
  unfold cnt
  apply List.length_pos_of_mem (a := nd ns i)
  rw [List.mem_filter]
  exact ⟨by rw [nd_eq hi]; exact List.getElem_mem hi, by simpa using h⟩
theorem vec_getD {L : Nat} {f : Nat → Nat} {j : Nat} (h : j < L) : (vec L f).getD j 0 = (f j : Int) := by simp [vec, h]
theorem vec_succ (L : Nat) (f : Nat → Nat) : vec (L + 1) f = vec L f ++ [(f L : Int)] := by simp [vec, List.range_succ]
theorem vec_sum_add (L : Nat) (f g : Nat → Nat) : (vec L fun j => f j + g j).sum = (vec L f).sum + (vec L g).sum := by
  induction L with
  | zero => rfl
  | succ L ih => rw [vec_succ, vec_succ, vec_succ, List.sum_append, List.sum_append, List.sum_append, ih]; simp; omega
theorem vec_sum_ind (L l : Nat) : (vec L fun j => if j < l then 1 else 0).sum = (min L l : Nat) := by
  induction L with
  | zero => simp [vec]
  | succ L ih =>
    rw [vec_succ, List.sum_append, ih]
    by_cases h : L < l
    · simp [h]; omega
    · simp [h]; omega
def lens (ns : List Nd) : Int := (ns.map fun n => (n.us.length : Int)).sum
theorem copies_sum (L : Nat) : ∀ (ns : List Nd), (∀ n ∈ ns, n.us.length ≤ L) → (vec L (cnt ns)).sum = lens ns
  | [], _ => by
    rw [show cnt [] = fun _ => 0 from rfl, vec_zero]
    simp [lens]
  | n :: r, h => by
    have h1 := copies_sum L r (fun x hx => h x (by simp [hx]))
    have h2 := h n (by simp)
    rw [show vec L (cnt (n :: r)) = vec L (fun j => cnt r j + if j < n.us.length then 1 else 0) from vec_ext fun j _ => cnt_cons n r j, vec_sum_add, h1, vec_sum_ind]
    simp only [lens, List.map_cons, List.sum_cons]
    omega
theorem sum_take {xs : List Int} {k : Nat} (h : k < xs.length) : (xs.take (k + 1)).sum = (xs.take k).sum + xs[k] := by rw [take_snoc' xs k h, List.sum_append]; simp
theorem sum_bd : ∀ (xs : List Int) (m : Int), (∀ x ∈ xs, 0 ≤ x ∧ x ≤ m) → 0 ≤ xs.sum ∧ xs.sum ≤ xs.length * m
  | [], _, _ => by simp
  | x :: r, m, h => by
    have h1 := sum_bd r m (fun y hy => h y (by simp [hy]))
    have h2 := h x (by simp)
    rw [List.sum_cons, List.length_cons]
    constructor
    · omega
    · push_cast
      rw [Int.add_mul, Int.one_mul]
      omega
theorem vec_mem {L : Nat} {f : Nat → Nat} {m : Nat} (h : ∀ j, f j ≤ m) : ∀ x ∈ vec L f, 0 ≤ x ∧ x ≤ m := fun x hx => by
  simp only [vec, List.mem_map] at hx
  obtain ⟨j, _, rfl⟩ := hx
  have := h j
  omega
theorem lens_take {ns : List Nd} {k : Nat} (h : k < ns.length) : lens (ns.take (k + 1)) = lens (ns.take k) + (nd ns k).us.length := by
  unfold lens
  rw [List.take_succ_eq_append_getElem h, List.map_append, List.sum_append, nd_eq h]
  simp
theorem chain_shrinks {view : Int} {ns : List Nd} (h : chainOk view ns = true) : ∀ (i j : Nat), i + j < ns.length → (nd ns (i + j)).us.length ≤ (nd ns i).us.length := by
  obtain ⟨_, _, hst, _⟩ := chainOk_iff.1 h
  intro i j
  induction j with
  | zero => intro _; exact Nat.le_refl _
  | succ j ih =>
    intro hlt
    have h1 := (hst (i + (j + 1)) hlt).2.2 (by omega)
    exact Nat.le_trans h1.1.length_le (ih (by omega))
theorem cnt_full {view : Int} {ns : List Nd} (h : chainOk view ns = true) (k : Nat) : cnt ns k = ns.length ↔ k < (nd ns (ns.length - 1)).us.length := by
  have hn := (chainOk_iff.1 h).2.1
  unfold cnt
  rw [List.length_filter_eq_length_iff]
  constructor
  · intro ha
    have := ha (nd ns (ns.length - 1)) (by rw [nd_eq (by omega)]; exact List.getElem_mem _)
    simpa using this
  · intro hk x hx
    obtain ⟨i, hi, rfl⟩ := List.getElem_of_mem hx
    have h1 := chain_shrinks h i (ns.length - 1 - i) (by omega)
    rw [show i + (ns.length - 1 - i) = ns.length - 1 by omega, nd_eq hi] at h1
    simp
    omega

end Go.Proofs.YtebklbncfcdkmaaDoor
