
/-
  What a law is told of a slice of updates that came in. No statement is proved here.
-/
import Derived.Test.YtebklbncfcdkmaaDoorOp1
namespace Go.Proofs.YtebklbncfcdkmaaDoor
open Go.RowKit Go.Joins Go.ChangeShapes Go.WideShapes Go.Deep

def IsUpdsV (w : World) (v : Value) : Prop := ∃ (a : Option Addr) (cap : Nat) (us : List Upd), v = .slice a us.length cap ∧ us.length ≤ cap ∧ cap ≤ maxLen ∧ UpdsAt w a us
set_option maxRecDepth 100000 in
theorem upds_of {w : World} {b off : Nat} {us : List Upd} (h : ∀ i, (hi : i < us.length) → w.cell? ⟨b, off + i * 2, none⟩ = some (.int .i64 us[i].1) ∧ w.cell? ⟨b, off + i * 2 + 1, none⟩ = some (.int .i64 us[i].2)) : UpdsAt w (some ⟨b, off, none⟩) us := by
  refine .inr ⟨b, off, rfl, fun j hj => ?_⟩
  rw [ucells_len] at hj
  have hi : j / 2 < us.length := by omega
  obtain ⟨h1, h2⟩ := h (j / 2) hi
  obtain ⟨e1, e2⟩ := ucells_at us (j / 2) hi
  rcases (show j = j / 2 * 2 ∨ j = j / 2 * 2 + 1 by omega) with e | e
  · rw [e, e1]; exact h1
  · rw [e, e2, ← Nat.add_assoc]; exact h2
section
variable {H : Type} {enc : TypeId × Value → H} {w : World} {base : Nat} {spare : Nat → Bool} {held : Bool}
set_option maxRecDepth 100000 in
theorem trod_upd {fuel : Nat} {cs : List Value} {y : DataW H × List MemPlace} (h : DataW.trod enc Tryd.prog w base spare held fuel 23 cs = some y) (hl : cs.length = 2) : ∃ k v : Int, cs = [.int .i64 k, .int .i64 v] := by
  obtain ⟨xs, n, _, _, _, hlen, hf⟩ := DataW.trod_struct Tryd.underlying23 h
  match cs, hl with
  | [c0, c1], _ =>
    have h0 := hf 0 _ rfl
    have h1 := hf 1 _ rfl
    have hx : xs.length = 2 := by simpa using hlen
    match xs, hx with
    | [y0, y1], _ =>
      have e0 : Tryd.prog.cellsOf 3 = 1 := by kernel_rfl
      simp [e0] at h0 h1
      obtain ⟨k, rfl, _⟩ := trod_i64 h0
      obtain ⟨v, rfl, _⟩ := trod_i64 h1
      exact ⟨k, v, rfl⟩
set_option maxRecDepth 100000 in
theorem trod_upds {fuel : Nat} {v : Value} {y : DataW H × List MemPlace} (hsp : spare = fun _ => true) (h : DataW.trod enc Tryd.prog w base spare held fuel 28 [v] = some y) : IsUpdsV w v := by
  obtain ⟨a, len, cap, n, rfl, hl, hm, h1⟩ := slice_elems Tryd.underlying28 2 (by kernel_rfl) (by omega) hsp h
  rcases h1 with rfl | ⟨b, off, rfl, h2⟩
  · exact ⟨a, cap, [], rfl, hl, hm, .inl rfl⟩
  · have h3 : ∀ i, i < len → ∃ u : Upd, w.cell? ⟨b, off + i * 2, none⟩ = some (.int .i64 u.1) ∧ w.cell? ⟨b, off + i * 2 + 1, none⟩ = some (.int .i64 u.2) := fun i hi => by
      obtain ⟨cs, z, hcs, hcell, ht⟩ := h2 i hi
      obtain ⟨k, v, rfl⟩ := trod_upd ht hcs
      exact ⟨(k, v), by simpa using hcell 0 (by omega), by simpa using hcell 1 (by omega)⟩
    obtain ⟨f, hf⟩ := choose_lt h3
    exact ⟨some ⟨b, off, none⟩, cap, (List.range len).map f, by simp, by simpa using hl, hm, upds_of fun i hi => by simp at hi; simpa using hf i hi⟩
set_option maxRecDepth 100000 in
theorem open_updsV {v : Value} {d : DataW H} {p : List MemPlace} (r : Reach) (b0 : Nat) (hsp : spare = fun _ => true) (hv : Value.okWide Tryd.prog w r b0 28 v) (h : DataW.Trod enc Tryd.prog w base spare held 28 v d p) : IsUpdsV w v := by
  obtain ⟨a, len, cap, rfl⟩ := okWide_slice Tryd.underlying28 hv
  obtain ⟨fuel, hf⟩ := h
  exact trod_upds hsp (by simpa [Value.cells] using hf)
end

end Go.Proofs.YtebklbncfcdkmaaDoor
