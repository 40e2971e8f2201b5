
/-
  Plain facts on the lines of a chain's text. No program, no statement.
-/
import Derived.Test.YtebklbncfcdkmaaDoorY5
import Derived.Test.YtebklbncfcdkmaaDoorY9
namespace Go.Proofs.YtebklbncfcdkmaaDoor
open Go.RowKit

/-- How many newlines. -/
def nl (l : List UInt8) : Nat := (l.filter fun c => c == 10).length
theorem nl_append (x y : List UInt8) : nl (x ++ y) = nl x + nl y := by simp [nl]
theorem nl_none {l : List UInt8} (h : ∀ c ∈ l, c ≠ 10) : nl l = 0 := by
  unfold nl
  rw [List.length_eq_zero_iff, List.filter_eq_nil_iff]
  intro c hc
  simpa using h c hc
theorem nl_le (l : List UInt8) : nl l ≤ l.length := List.length_filter_le _ _
/-- A digit. -/
def isDig (c : UInt8) : Prop := 48 ≤ c.toNat ∧ c.toNat ≤ 57
theorem dig_of (d : Nat) (h : d < 10) : isDig (UInt8.ofNat (48 + d)) := by
  unfold isDig
  rw [UInt8.toNat_ofNat']
  omega
theorem dec_digs : ∀ n : Nat, ∀ c ∈ Lib.decDigits n, isDig c := by
  intro n
  induction n using Nat.strongRecOn with
  | ind n ih =>
    intro c hc
    by_cases h : n < 10
    · rw [Lib.decDigits_one h] at hc
      rw [List.mem_singleton] at hc
      rw [hc]; exact dig_of n h
    · rw [Lib.decDigits, dif_neg h] at hc
      rcases List.mem_append.1 hc with hc | hc
      · exact ih (n / 10) (by omega) c hc
      · rw [List.mem_singleton] at hc
        rw [hc]; exact dig_of (n % 10) (by omega)
theorem dig_ne {c : UInt8} (h : isDig c) (d : UInt8) (hd : d.toNat < 48 ∨ 57 < d.toNat) : c ≠ d := by
  rintro rfl
  unfold isDig at h
  omega
theorem nl_dec (n : Nat) : nl (Lib.decDigits n) = 0 := nl_none fun c hc => dig_ne (dec_digs n c hc) 10 (by decide)
theorem nl_updT (u : Upd) : nl (updT u) = 0 := by
  unfold updT
  rw [nl_append, nl_append, nl_dec, nl_dec]
  rfl
theorem nl_joinT (us : List Upd) : ∀ k, nl (joinT us k) = 0
  | 0 => rfl
  | k + 1 => by
    have h := nl_joinT us k
    unfold joinT
    rw [nl_append, nl_updT]
    split
    · rw [nl_append, h]; rfl
    · rw [h]
theorem nl_logT (us : List Upd) : nl (logT us) = 0 := by
  unfold logT
  split
  · rfl
  · exact nl_joinT us _
theorem nl_nodeT (n : Nd) : nl (nodeT n) = 1 := by
  unfold nodeT
  rw [nl_append, nl_append, nl_append, nl_append, nl_append, nl_dec, nl_dec, nl_logT]
  rfl
theorem nl_linesT (view : Int) (ns : List Nd) : ∀ k, nl (linesT view ns k) = k + 1
  | 0 => by
    unfold linesT headT
    rw [nl_append, nl_append, nl_dec]
    rfl
  | k + 1 => by
    have h := nl_linesT view ns k
    unfold linesT
    rw [nl_append, nl_nodeT, h]
theorem lines_head (view : Int) (ns : List Nd) : ∀ k, ∃ r, linesT view ns k = [118, 105, 101, 119, 32] ++ r
  | 0 => ⟨_, by unfold linesT headT; rw [List.append_assoc]⟩
  | k + 1 => by
    obtain ⟨r, h⟩ := lines_head view ns k
    exact ⟨_, by unfold linesT; rw [h, List.append_assoc]⟩
theorem take_snocB (s : ByteArray) (k : Nat) (h : k < s.size) : s.data.toList.take (k + 1) = s.data.toList.take k ++ [s[k]] := by
  rw [List.take_succ_eq_append_getElem (by simpa using h)]; rfl
theorem nl_snoc (l : List UInt8) (c : UInt8) : nl (l ++ [c]) = nl l + if (c.toNat : Int) = 10 then 1 else 0 := by
  rw [nl_append]
  congr 1
  by_cases h : (c.toNat : Int) = 10
  · rw [if_pos h]
    have : c = 10 := UInt8.toNat_inj.1 (by simp; omega)
    rw [this]; rfl
  · rw [if_neg h]
    refine nl_none fun x hx => ?_
    simp at hx
    rintro rfl
    rw [← hx] at h
    exact h rfl
end Go.Proofs.YtebklbncfcdkmaaDoor
