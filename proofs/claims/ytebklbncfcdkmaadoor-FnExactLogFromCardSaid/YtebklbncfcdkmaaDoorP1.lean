
/-
  Plain facts on lists of ids and on bits. No program, no statement.
-/
import Derived.WalkKit
import Derived.Laws.Bits64b
import Derived.Laws.ShiftsVarLaws
namespace Go.Proofs.YtebklbncfcdkmaaDoor

/-- Ids in range, all different. -/
def idsOk (xs : List Int) : Bool := decide ((∀ x ∈ xs, 1 ≤ x ∧ x ≤ 99) ∧ xs.Nodup)
/-- A valid view. -/
def viewOk (num : Int) (xs : List Int) : Bool := decide (0 ≤ num ∧ num ≤ 999 ∧ 1 ≤ xs.length ∧ xs.length ≤ 5) && idsOk xs

theorem idsOk_nil : idsOk [] = true := by simp [idsOk]
theorem idsOk_snoc (xs : List Int) (x : Int) : idsOk (xs ++ [x]) = (idsOk xs && decide (1 ≤ x ∧ x ≤ 99) && !decide (x ∈ xs)) := by
  rw [Bool.eq_iff_iff]
  have hs : [x].Nodup := by simp
  simp only [idsOk, decide_eq_true_eq, Bool.and_eq_true, Bool.not_eq_true', decide_eq_false_iff_not, List.mem_append, List.mem_singleton, List.nodup_append]
  constructor
  · rintro ⟨h1, h2, _, h3⟩
    exact ⟨⟨⟨fun y hy => h1 y (.inl hy), h2⟩, h1 x (.inr rfl)⟩, fun hx => h3 x hx x (by simp) rfl⟩
  · rintro ⟨⟨⟨h1, h2⟩, h3⟩, h4⟩
    refine ⟨fun y hy => ?_, h2, hs, fun y hy z hz e => ?_⟩
    · rcases hy with h | rfl
      · exact h1 y h
      · exact h3
    · subst hz; subst e; exact h4 hy
theorem idsOk_take {xs : List Int} {k : Nat} (h : idsOk (xs.take k) = false) : idsOk xs = false := by
  cases hx : idsOk xs with
  | false => rfl
  | true =>
    simp only [idsOk, decide_eq_true_eq] at hx
    have : idsOk (xs.take k) = true := by
      simp only [idsOk, decide_eq_true_eq]
      exact ⟨fun y hy => hx.1 y (List.mem_of_mem_take hy), hx.2.sublist (List.take_sublist _ _)⟩
    rw [this] at h; cases h
theorem take_snoc' (xs : List Int) (k : Nat) (h : k < xs.length) : xs.take (k + 1) = xs.take k ++ [xs[k]] := by
  rw [List.take_succ_eq_append_getElem h]

/-- The place of a number in a list, or -1. -/
def upTo (xs : List Int) (n : Int) : Nat := (xs.takeWhile (· != n)).length
def place (xs : List Int) (n : Int) : Int := if n ∈ xs then upTo xs n else -1
theorem upTo_le (xs : List Int) (n : Int) : upTo xs n ≤ xs.length := by
  unfold upTo
  induction xs with
  | nil => simp
  | cons x r ih =>
    rw [List.takeWhile_cons]
    split <;> simp <;> omega
theorem place_at (xs : List Int) (n : Int) (k : Nat) (hk : k < xs.length) (he : xs[k] = n) (hn : ∀ j, j < k → xs.getD j 0 ≠ n) : place xs n = k := by
  have hm : n ∈ xs := he ▸ List.getElem_mem hk
  rw [place, if_pos hm]
  congr 1
  induction xs generalizing k with
  | nil => simp at hk
  | cons x r ih =>
    cases k with
    | zero =>
      simp at he
      simp [upTo, he]
    | succ k =>
      have h0 : x ≠ n := by simpa using hn 0 (by omega)
      have := ih k (by simpa using hk) (by simpa using he) (fun j hj => by have := hn (j + 1) (by omega); simpa using this) (he ▸ by simp)
      simp only [upTo, List.takeWhile_cons] at this ⊢
      simp [h0, this]
theorem place_none (xs : List Int) (n : Int) (hn : ∀ j, j < xs.length → xs.getD j 0 ≠ n) : place xs n = -1 := by
  rw [place, if_neg]
  intro hm
  obtain ⟨j, hj, e⟩ := List.getElem_of_mem hm
  exact hn j hj (by simp [hj, e])
theorem place_lt (xs : List Int) (k : Nat) (hk : k < xs.length) : (place xs xs[k] < k ↔ xs[k] ∈ xs.take k) ∧ 0 ≤ place xs xs[k] := by
  have hm : xs[k] ∈ xs := List.getElem_mem hk
  rw [place, if_pos hm]
  refine ⟨?_, by omega⟩
  generalize hn : xs[k] = n at *
  clear hm
  induction xs generalizing k with
  | nil => simp at hk
  | cons x r ih =>
    cases k with
    | zero => simp [upTo]
    | succ k =>
      have := ih k (by simpa using hk) (by simpa using hn)
      simp only [upTo, List.takeWhile_cons, List.take_succ_cons, List.mem_cons] at this ⊢
      by_cases hx : x = n
      · subst hx; simp
      · have hx' : (x != n) = true := by simpa using hx
        simp only [hx', if_true, List.length_cons]
        have e : (n = x ∨ n ∈ r.take k) ↔ n ∈ r.take k := ⟨fun h => h.resolve_left (Ne.symm hx), .inr⟩
        rw [e, ← this]
        omega

theorem bit_and (a k : Nat) (ha : a < 18446744073709551616) : (bits .and .u64 ((a : Int) / 2 ^ k) 1 == 1) = a.testBit k := by
  have e : ((a : Int) / 2 ^ k) = ((a / 2 ^ k : Nat) : Int) := by simp
  have h := bits_and_u64_nat (a / 2 ^ k) 1 (Nat.lt_of_le_of_lt (Nat.div_le_self _ _) ha) (by omega)
  rw [e]
  have h' : bits .and .u64 ((a / 2 ^ k : Nat) : Int) 1 = ((a / 2 ^ k &&& 1 : Nat) : Int) := h
  rw [h', Nat.testBit, Nat.shiftRight_eq_div_pow, Nat.and_comm 1, Nat.and_one_is_mod]
  have : a / 2 ^ k % 2 = 0 ∨ a / 2 ^ k % 2 = 1 := by omega
  rcases this with h | h <;> rw [h] <;> rfl

theorem wrap_pow (k : Nat) (hk : k < 64) : IntKind.u64.wrap (2 ^ k) = ((2 ^ k : Nat) : Int) := by
  rw [IntKind.wrap_u64]
  have h1 : 2 ^ k < 2 ^ 64 := Nat.pow_lt_pow_right (by decide) hk
  have h2 : ((2 : Int) ^ k) = ((2 ^ k : Nat) : Int) := by simp
  rw [h2]
  generalize 2 ^ k = p at *
  omega
theorem bit_or (a k : Nat) (ha : a < 18446744073709551616) (hk : k < 64) : ∃ c : Nat, bits .or .u64 (a : Int) (IntKind.u64.wrap (2 ^ k)) = (c : Int) ∧ c < 18446744073709551616 ∧ ∀ j, c.testBit j = (a.testBit j || decide (j = k)) := by
  have hp : 2 ^ k < 2 ^ 64 := Nat.pow_lt_pow_right (by decide) hk
  refine ⟨a ||| 2 ^ k, ?_, ?_, ?_⟩
  · rw [wrap_pow k hk, bits_or_u64_nat a (2 ^ k) ha (by omega)]
  · have := Nat.or_lt_two_pow (n := 64) (x := a) (y := 2 ^ k) (by omega) (by omega)
    omega
  · intro j
    rw [Nat.testBit_or, Nat.testBit_two_pow]
    congr 1
    simp [eq_comm]

theorem mem_snoc_bit (xs : List Int) (k m : Nat) : (decide ((k : Int) ∈ xs) || decide (k = m)) = decide ((k : Int) ∈ xs ++ [(m : Int)]) := by
  rw [Bool.eq_iff_iff]
  simp only [Bool.or_eq_true, decide_eq_true_eq, List.mem_append, List.mem_singleton]
  rw [show ((k : Int) = (m : Int)) ↔ k = m by omega]
theorem mem_snoc_no (xs : List Int) (k : Nat) (m : Int) (h : (k : Int) ≠ m) : decide ((k : Int) ∈ xs) = decide ((k : Int) ∈ xs ++ [m]) := by
  rw [Bool.eq_iff_iff]
  simp only [decide_eq_true_eq, List.mem_append, List.mem_singleton]
  exact ⟨.inl, fun h' => h'.resolve_right h⟩

end Go.Proofs.YtebklbncfcdkmaaDoor
