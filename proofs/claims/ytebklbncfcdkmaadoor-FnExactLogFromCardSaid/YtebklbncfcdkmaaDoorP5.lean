
/-
  Plain facts on numbers in a row, and on lists that are written element by element. No program, no statement.
-/
import Derived.WalkKit
namespace Go.Proofs.YtebklbncfcdkmaaDoor

/-- The numbers from k on. -/
def seqInts (k : Int) (n : Nat) : List Int := (List.range n).map fun (i : Nat) => k + i
theorem seqInts_len (k : Int) (n : Nat) : (seqInts k n).length = n := by simp [seqInts]
theorem seqInts_at (k : Int) (n j : Nat) (h : j < n) : (seqInts k n)[j]? = some (k + j) := by simp [seqInts, h]
theorem seqInts_snoc (k : Int) (n : Nat) : seqInts k (n + 1) = seqInts k n ++ [k + n] := by simp [seqInts, List.range_succ]
theorem take_set_snoc {α : Type} (l : List α) (k : Nat) (u : α) (h : k < l.length) : (l.set k u).take (k + 1) = l.take k ++ [u] := by
  rw [List.take_succ_eq_append_getElem (by simpa using h), List.getElem_set_self]
  congr 1
  apply List.ext_getElem?
  intro i
  simp only [List.getElem?_take, List.getElem?_set]
  by_cases hi : i < k
  · rw [if_pos hi, if_pos hi, if_neg (by omega)]
  · rw [if_neg hi, if_neg hi]
theorem seq_set {cs : List Value} {k : Int} {j : Nat} (h : j < cs.length) (ht : cs.take j = (seqInts k j).map (Value.int .i64)) : (cs.set j (.int .i64 (k + j))).take (j + 1) = (seqInts k (j + 1)).map (Value.int .i64) := by
  rw [take_set_snoc _ _ _ h, ht, seqInts_snoc]; simp
theorem seq_set2 {cs : List Value} {k : Int} {j : Nat} (h : j * 2 + 1 < cs.length) (ht : cs.take (j * 2) = (seqInts k (j * 2)).map (Value.int .i64)) :
    ((cs.set (j * 2) (.int .i64 (k + (j * 2 : Nat)))).set (j * 2 + 1) (.int .i64 (k + (j * 2 + 1 : Nat)))).take ((j + 1) * 2) = (seqInts k ((j + 1) * 2)).map (Value.int .i64) := by
  have h1 := seq_set (k := k) (j := j * 2) (by omega) ht
  have h2 := seq_set (cs := cs.set (j * 2) (.int .i64 (k + (j * 2 : Nat)))) (k := k) (j := j * 2 + 1) (by simpa using h) h1
  rw [show (j + 1) * 2 = j * 2 + 1 + 1 by omega]
  exact h2
theorem copy_set {cs : List Value} {xs : List Int} {j : Nat} (h : j < cs.length) (hx : j < xs.length) (ht : cs.take j = (xs.take j).map (Value.int .i64)) : (cs.set j (.int .i64 xs[j])).take (j + 1) = (xs.take (j + 1)).map (Value.int .i64) := by
  rw [take_set_snoc _ _ _ h, ht, List.take_succ_eq_append_getElem hx, List.map_append, List.map_cons, List.map_nil]

end Go.Proofs.YtebklbncfcdkmaaDoor
