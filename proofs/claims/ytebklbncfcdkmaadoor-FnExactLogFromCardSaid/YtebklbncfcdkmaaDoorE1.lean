
/-
  The walks of the laws' own functions on slices of ints: size, copy, mark, held. No statement is proved here.
-/
import Derived.Test.YtebklbncfcdkmaaDoorSt
import Derived.Test.YtebklbncfcdkmaaDoorEq
import Derived.Test.YtebklbncfcdkmaaDoorP5
import Derived.Laws.OwnMore
namespace Go.Proofs.YtebklbncfcdkmaaDoor
open Go.RowKit

theorem row_full {g n : Nat} {e : TypeId} {cs : List Value} {xs : List Int} {w0 w : World} {rs : List Res} (h : St w0 w (row (.slice (some ⟨g, 0, none⟩) n n) e 1 n cs :: rs)) (hx : xs.length = n) (ht : cs.take n = (xs.take n).map (Value.int .i64)) :
    St w0 w (row (.slice (some ⟨g, 0, none⟩) xs.length xs.length) e 1 xs.length (xs.map (Value.int .i64)) :: rs) := by
  have hl := h.own.1
  rw [List.take_of_length_le (by omega), List.take_of_length_le (by omega)] at ht
  subst ht
  rw [hx]
  exact h

end Go.Proofs.YtebklbncfcdkmaaDoor
