/-
  What a law is told of a base that came in. No statement is proved here.
-/
import Derived.Test.YtgdbphgcpcihcaaOp1
namespace Go.Proofs.Ytgdbphgcpcihcaa
open Go.RowKit Go.Joins Go.ChangeShapes Go.WideShapes Go.Deep

def IsBaseV (w : World) (v : Value) : Prop := ∃ (num : Int) (u : Value), v = .agg #[.int .i64 num, u] ∧ fits num ∧ IsIntsV w u
theorem open_baseV {H : Type} {enc : TypeId × Value → H} {w : World} {base : Nat} {spare : Nat → Bool} {held : Bool} {v : Value} {d : DataW H} {p : List MemPlace} (r : Reach) (b0 : Nat) (hsp : spare = fun _ => true) (hv : Value.okWide Try.prog w r b0 43 v) (h : DataW.Trod enc Try.prog w base spare held 43 v d p) : IsBaseV w v := by
  obtain ⟨c0, c1, y0, y1, m, rfl, _, _, h0, h1⟩ := open_agg2 Try.underlying43 (by kernel_rfl) (by kernel_rfl) hv h
  obtain ⟨n, rfl, hn⟩ := trod_i64 h0
  exact ⟨n, c1, rfl, hn, trod_ints hsp h1⟩

end Go.Proofs.Ytgdbphgcpcihcaa
