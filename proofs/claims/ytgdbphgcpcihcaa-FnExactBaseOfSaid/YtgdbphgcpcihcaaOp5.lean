/-
  What a law is told of a node that came in. No statement is proved here.
-/
import Derived.Test.YtgdbphgcpcihcaaOp3
namespace Go.Proofs.Ytgdbphgcpcihcaa
open Go.RowKit Go.Joins Go.ChangeShapes Go.WideShapes Go.Deep

def IsNodeV (w : World) (v : Value) : Prop := ∃ (nid : Int) (u : Value) (done : Int), v = .agg #[.int .i64 nid, u, .int .i64 done] ∧ fits nid ∧ fits done ∧ IsUpdsV w u
theorem open_nodeV {H : Type} {enc : TypeId × Value → H} {w : World} {base : Nat} {spare : Nat → Bool} {held : Bool} {v : Value} {d : DataW H} {p : List MemPlace} (r : Reach) (b0 : Nat) (hsp : spare = fun _ => true) (hv : Value.okWide Try.prog w r b0 53 v) (h : DataW.Trod enc Try.prog w base spare held 53 v d p) : IsNodeV w v := by
  obtain ⟨c0, c1, c2, y0, y1, y2, m, rfl, _, _, h0, h1, h2⟩ := open_agg3 Try.underlying53 (by kernel_rfl) (by kernel_rfl) hv h
  obtain ⟨n, rfl, hn⟩ := trod_i64 h0
  obtain ⟨k, rfl, hk⟩ := trod_i64 h2
  exact ⟨n, c1, k, rfl, hn, hk, trod_upds hsp h1⟩

end Go.Proofs.Ytgdbphgcpcihcaa
