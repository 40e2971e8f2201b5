
/-
  Further words: a row of the call's own read as a slice, marks. No statement is proved here.
-/
import Derived.Test.YtebklbncfcdkmaaDoorK
namespace Go.Proofs.YtebklbncfcdkmaaDoor
open Go.RowKit

theorem own_form {w : World} {base : Nat} {v : Value} {xs : List Int} (h : w.ownsRow base 3 1 v xs.length (xs.map (Value.int .i64))) : ∃ a cap, v = .slice a xs.length cap ∧ IntsAt w a xs := by
  by_cases h0 : 0 < xs.length
  · obtain ⟨g, cap, rfl, _, _⟩ := h.form h0
    exact ⟨_, cap, rfl, own_ints h⟩
  · obtain rfl : xs = [] := List.eq_nil_of_length_eq_zero (by omega)
    rcases h.2 with ⟨h1, _⟩ | ⟨g, cap, cur, h1, _⟩
    · exact ⟨none, 0, h1, .inl rfl⟩
    · exact ⟨_, cap, h1, .inl rfl⟩
theorem own_intsR {w : World} {base : Nat} {a : Option Addr} {cap : Nat} {xs : List Int} (h : w.ownsRow base 3 1 (.slice a xs.length cap) xs.length (xs.map (Value.int .i64))) : IntsAt w a xs := by
  obtain ⟨a', cap', e, h'⟩ := own_form h
  cases e
  exact h'
theorem drew_below {a b : World} (h : Below a.drew.heap.size a.drew b) : Below a.heap.size a b := ⟨h.os, h.tape, h.output, h.size, h.block⟩
/-- The marks of a result that is one of two. -/
theorem ret_bool {a b : Bool} (h : a = b) : Ending.returned (.bool a) = .returned (.bool b) := by rw [h]
theorem IntsAt.drewN {w : World} {a : Option Addr} {xs : List Int} (h : IntsAt w a xs) (n : Nat) : IntsAt (w.drewN n) a xs := h.below ⟨rfl, rfl, rfl, Nat.le_refl _, fun _ _ => rfl⟩
theorem below_drewN {B : Nat} {a w : World} (h : Below B a w) (n : Nat) : Below B a (w.drewN n) := ⟨h.os, h.tape, h.output, h.size, h.block⟩

theorem make_five (w : World) : (Instr.makeSlice 96 (.int .i64 5) (.int .i64 5)).run Tryd.prog w = .ok (.slice (some ⟨w.heap.size, 0, none⟩) 5 5) (w.alloc (.cells #[.int .i64 0, .int .i64 0, .int .i64 0, .int .i64 0, .int .i64 0] 3)) := by kernel_rfl

theorem ownsRow_mono {w : World} {base base' : Nat} {e : TypeId} {size : Nat} {v : Value} {n : Nat} {xs : List Value} (h : w.ownsRow base e size v n xs) (hb : base' ≤ base) : w.ownsRow base' e size v n xs := by
  obtain ⟨h1, h2⟩ := h
  refine ⟨h1, ?_⟩
  rcases h2 with h2 | ⟨g, cap, cur, h3, h4, h5⟩
  · exact .inl h2
  · exact .inr ⟨g, cap, cur, h3, Nat.le_trans hb h4, h5⟩

end Go.Proofs.YtebklbncfcdkmaaDoor
