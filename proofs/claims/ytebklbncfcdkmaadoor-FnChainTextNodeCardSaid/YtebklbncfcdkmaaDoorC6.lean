
/-
  The walks of the stack of nodes. No statement is proved here.
-/
import Derived.Test.YtebklbncfcdkmaaDoorC4
import Derived.Test.YtebklbncfcdkmaaDoorMx
import Derived.Test.YtebklbncfcdkmaaDoorOc
import Derived.Test.YtebklbncfcdkmaaDoorJn
namespace Go.Proofs.YtebklbncfcdkmaaDoor
open Go.RowKit

theorem elem_node : Elem Tryd.prog 38 44 3 40 := by
  obtain ⟨i, hi, h0, h1, h2⟩ := info_parts (show (Tryd.prog.info? 44).map (fun i => (i.zero, i.size, i.bytes)) = some (some (.agg #[.int .i64 0, .slice none 0 0, .int .i64 0]), 3, 40) by kernel_rfl)
  exact ⟨Tryd.underlying38, i, _, hi, h0, h1, h2, rfl, by omega⟩

theorem take_take_len {α : Type} (l : List α) (a b : Nat) (h : a ≤ b) : (l.take b).take a = l.take a := by rw [List.take_take, Nat.min_eq_left h]
/-- A row without its last elements. -/
theorem St.rowTake {w0 w : World} {rs : List Res} {a : Option Addr} {n cap size : Nat} {e : TypeId} {xs : List Value} (h : St w0 w (row (.slice a n cap) e size n xs :: rs)) (m : Nat) (hm : m ≤ n) : St w0 w (row (.slice a m cap) e size m (xs.take (m * size)) :: rs) := by
  refine h.turn (grown_refl w _) ?_ (fun b hb => .inl ?_) (fun b hb => ?_)
  · have ho := h.own
    refine row_own (base := w0.heap.size) ⟨?_, ?_⟩
    · rw [List.length_take, ho.1]; exact Nat.min_eq_left (Nat.mul_le_mul_right _ hm)
    · rcases ho.2 with ⟨h1, h2⟩ | ⟨g, cap', cur, h1, h2, h3, h4, h5, h6, h7⟩
      · cases h1
        exact .inl ⟨by rw [show m = 0 by omega], by omega⟩
      · cases h1
        refine .inr ⟨g, _, cur, rfl, h2, h3, by omega, h5, h6, ?_⟩
        rw [← h7, List.take_take, Nat.min_eq_left (Nat.mul_le_mul_right _ hm)]
  · cases a <;> exact hb
  · have := h.own.lt b (by cases a <;> exact hb)
    exact this.2

end Go.Proofs.YtebklbncfcdkmaaDoor
