/-
  What a law is told of a view that came in. No statement is proved here.
-/
import Derived.Test.YtkbckgnkbnakkaaOp1
namespace Go.Proofs.Ytkbckgnkbnakkaa
open Go.RowKit Go.Joins Go.ChangeShapes Go.WideShapes Go.Deep

def IsViewV (w : World) (v : Value) : Prop := ∃ (num : Int) (u : Value), v = .agg #[.int .i64 num, u] ∧ fits num ∧ IsIntsV w u
theorem open_viewV {H : Type} {enc : TypeId × Value → H} {w : World} {base : Nat} {spare : Nat → Bool} {held : Bool} {v : Value} {d : DataW H} {p : List MemPlace} (r : Reach) (b0 : Nat) (hsp : spare = fun _ => true) (hv : Value.okWide Try.prog w r b0 29 v) (h : DataW.Trod enc Try.prog w base spare held 29 v d p) : IsViewV w v := by
  obtain ⟨c0, c1, y0, y1, m, rfl, _, _, h0, h1⟩ := open_agg2 Try.underlying29 (by kernel_rfl) (by kernel_rfl) hv h
  obtain ⟨n, rfl, hn⟩ := trod_i64 h0
  exact ⟨n, c1, rfl, hn, trod_ints hsp h1⟩

end Go.Proofs.Ytkbckgnkbnakkaa
