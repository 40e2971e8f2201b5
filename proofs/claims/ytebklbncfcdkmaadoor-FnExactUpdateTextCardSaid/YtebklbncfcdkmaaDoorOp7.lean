
/-
  What a law is told of an update, of a string that came in. No statement is proved here.
-/
import Derived.Test.YtebklbncfcdkmaaDoorOp1
namespace Go.Proofs.YtebklbncfcdkmaaDoor
open Go.RowKit Go.Joins Go.ChangeShapes Go.WideShapes Go.Deep

def IsUpdV (v : Value) : Prop := ∃ k x : Int, v = .agg #[.int .i64 k, .int .i64 x]
set_option maxRecDepth 100000 in
theorem open_updateV {H : Type} {enc : TypeId × Value → H} {w : World} {base : Nat} {spare : Nat → Bool} {held : Bool} {v : Value} {d : DataW H} {p : List MemPlace} (r : Reach) (b0 : Nat) (hv : Value.okWide Tryd.prog w r b0 23 v) (h : DataW.Trod enc Tryd.prog w base spare held 23 v d p) : IsUpdV v := by
  obtain ⟨c0, c1, y0, y1, m, rfl, _, _, h0, h1⟩ := open_agg2 Tryd.underlying23 (by kernel_rfl) (by kernel_rfl) hv h
  obtain ⟨n, rfl, hn⟩ := trod_i64 h0
  obtain ⟨n', rfl, hn'⟩ := trod_i64 h1
  exact ⟨n, n', rfl⟩

end Go.Proofs.YtebklbncfcdkmaaDoor
