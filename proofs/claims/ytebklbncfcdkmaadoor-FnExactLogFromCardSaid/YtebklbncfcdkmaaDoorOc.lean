
/-
  A row's room. No statement is proved here.
-/
import Derived.Test.YtebklbncfcdkmaaDoorSt
namespace Go.Proofs.YtebklbncfcdkmaaDoor
open Go.RowKit

theorem own_cap {w : World} {base : Nat} {a : Option Addr} {e : TypeId} {size n cap : Nat} {xs : List Value} (h : w.ownsRow base e size (.slice a n cap) n xs) : n ≤ cap := by
  rcases h.2 with ⟨e, h0⟩ | ⟨g', cap', cur, e, _, _, h1, _⟩
  · rw [h0]; exact Nat.zero_le _
  · cases e; exact h1

end Go.Proofs.YtebklbncfcdkmaaDoor
