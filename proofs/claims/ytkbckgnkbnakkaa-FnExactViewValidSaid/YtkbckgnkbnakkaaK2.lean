/-
  Further words: a row of the call's own read as a slice, sets of bits that are carried over. No statement is proved here.
-/
import Derived.Test.YtkbckgnkbnakkaaV1
namespace Go.Proofs.Ytkbckgnkbnakkaa
open Go.RowKit

theorem own_form {w : World} {base : Nat} {v : Value} {xs : List Int} (h : w.ownsRow base 3 1 v xs.length (xs.map (Value.int .i64))) : ∃ a cap, v = .slice a xs.length cap ∧ IntsAt w a xs := by
  by_cases h0 : 0 < xs.length
  · obtain ⟨g, cap, rfl, _, _⟩ := h.form h0
    exact ⟨_, cap, rfl, own_ints h⟩
  · obtain rfl : xs = [] := List.eq_nil_of_length_eq_zero (by omega)
    rcases h.2 with ⟨h1, _⟩ | ⟨g, cap, cur, h1, _⟩
    · exact ⟨none, 0, h1, .inl rfl⟩
    · exact ⟨_, cap, h1, .inl rfl⟩
theorem own_intsR {w : World} {base : Nat} {a : Option Addr} {cap : Nat} {xs : List Int} (h : w.ownsRow base 3 1 (.slice a xs.length cap) xs.length (xs.map (Value.int .i64))) : IntsAt w a xs := by
  obtain ⟨a', cap', e, h'⟩ := own_form h
  cases e
  exact h'
theorem drew_below {a b : World} (h : Below a.drew.heap.size a.drew b) : Below a.heap.size a b := ⟨h.os, h.tape, h.output, h.size, h.block⟩
theorem BitsAt.carry {w w' : World} {b : Nat} {xs : List Int} (h : BitsAt w b xs) (hk : ∀ o, w.heap[b]? = some o → w'.heap[b]? = some o) : BitsAt w' b xs := by
  obtain ⟨x, y, h1, h2⟩ := h
  exact ⟨x, y, hk _ h1, h2⟩
theorem BitsAt.lt {w : World} {b : Nat} {xs : List Int} (h : BitsAt w b xs) : b < w.heap.size := by
  obtain ⟨x, y, h1, h2⟩ := h
  exact lt_of_heap h1

end Go.Proofs.Ytkbckgnkbnakkaa
