
/-
  What a law is told of a chain that came in. No statement is proved here.
-/
import Derived.Test.YtebklbncfcdkmaaDoorOp3
import Derived.Test.YtebklbncfcdkmaaDoorC1
namespace Go.Proofs.YtebklbncfcdkmaaDoor
open Go.RowKit Go.Joins Go.ChangeShapes Go.WideShapes Go.Deep

def IsNodesV (w : World) (v : Value) : Prop := ∃ (a : Option Addr) (cap : Nat) (ns : List Nd), v = .slice a ns.length cap ∧ ns.length ≤ cap ∧ cap ≤ maxLen ∧ NodesAt w a ns ∧ ∀ n ∈ ns, n.cap ≤ maxLen
def IsChainV (w : World) (v : Value) : Prop := ∃ (num : Int) (u : Value), v = .agg #[.int .i64 num, u] ∧ fits num ∧ IsNodesV w u
theorem nodes_of_cells {w : World} {b off : Nat} {ns : List Nd} (h : ∀ i, (hi : i < ns.length) → w.cell? ⟨b, off + i * 3, none⟩ = some (.int .i64 ns[i].id) ∧ w.cell? ⟨b, off + i * 3 + 1, none⟩ = some (.slice ns[i].a ns[i].us.length ns[i].cap) ∧ w.cell? ⟨b, off + i * 3 + 2, none⟩ = some (.int .i64 ns[i].done)) : CellsAt w (some ⟨b, off, none⟩) (ncells ns) := by
  refine .inr ⟨b, off, rfl, fun j hj => ?_⟩
  rw [ncells_len] at hj
  have hi : j / 3 < ns.length := by omega
  obtain ⟨h1, h2, h3⟩ := h (j / 3) hi
  obtain ⟨e1, e2, e3⟩ := ncells_at ns (j / 3) hi
  rw [nd_eq hi] at e1 e2 e3
  rcases (show j = j / 3 * 3 ∨ j = j / 3 * 3 + 1 ∨ j = j / 3 * 3 + 2 by omega) with e | e | e
  · rw [e, e1]; exact h1
  · rw [e, e2, ← Nat.add_assoc]; exact h2
  · rw [e, e3, ← Nat.add_assoc]; exact h3
section
variable {H : Type} {enc : TypeId × Value → H} {w : World} {base : Nat} {spare : Nat → Bool} {held : Bool}
set_option maxRecDepth 100000 in
theorem trod_node {fuel : Nat} {cs : List Value} {y : DataW H × List MemPlace} (hsp : spare = fun _ => true) (h : DataW.trod enc Tryd.prog w base spare held fuel 103 cs = some y) (hl : cs.length = 3) : ∃ (p q : Int) (u : Value), cs = [.int .i64 p, u, .int .i64 q] ∧ IsUpdsV w u := by
  obtain ⟨xs, n, _, _, _, hlen, hf⟩ := DataW.trod_struct Tryd.underlying103 h
  match cs, hl with
  | [c0, c1, c2], _ =>
    have h0 := hf 0 _ rfl
    have h1 := hf 1 _ rfl
    have h2 := hf 2 _ rfl
    have hx : xs.length = 3 := by simpa using hlen
    match xs, hx with
    | [y0, y1, y2], _ =>
      have e0 : Tryd.prog.cellsOf 3 = 1 := by kernel_rfl
      have e1 : Tryd.prog.cellsOf 28 = 1 := by kernel_rfl
      simp [e0, e1] at h0 h1 h2
      obtain ⟨k, rfl, _⟩ := trod_i64 h0
      obtain ⟨v, rfl, _⟩ := trod_i64 h2
      exact ⟨k, v, c1, rfl, trod_upds hsp h1⟩
set_option maxRecDepth 100000 in
theorem trod_nodes {fuel : Nat} {v : Value} {y : DataW H × List MemPlace} (hsp : spare = fun _ => true) (h : DataW.trod enc Tryd.prog w base spare held fuel 46 [v] = some y) : IsNodesV w v := by
  obtain ⟨a, len, cap, n, rfl, hl, hm, h1⟩ := slice_elems Tryd.underlying46 3 (by kernel_rfl) (by omega) hsp h
  rcases h1 with rfl | ⟨b, off, rfl, h2⟩
  · exact ⟨a, cap, [], rfl, hl, hm, ⟨.inl rfl, fun n hn => by simp at hn⟩, fun n hn => by simp at hn⟩
  · have h3 : ∀ i, i < len → ∃ u : Nd, (w.cell? ⟨b, off + i * 3, none⟩ = some (.int .i64 u.id) ∧ w.cell? ⟨b, off + i * 3 + 1, none⟩ = some (.slice u.a u.us.length u.cap) ∧ w.cell? ⟨b, off + i * 3 + 2, none⟩ = some (.int .i64 u.done)) ∧ (UpdsAt w u.a u.us ∧ u.us.length ≤ u.cap) ∧ u.cap ≤ maxLen := fun i hi => by
      obtain ⟨cs, z, hcs, hcell, ht⟩ := h2 i hi
      obtain ⟨p, q, u, rfl, a', cap', us, rfl, hu1, hu2, hu3⟩ := trod_node hsp ht hcs
      exact ⟨⟨p, a', cap', us, q⟩, ⟨by simpa using hcell 0 (by omega), by simpa using hcell 1 (by omega), by simpa using hcell 2 (by omega)⟩, ⟨hu3, hu1⟩, hu2⟩
    obtain ⟨f, hf⟩ := choose_lt h3
    refine ⟨some ⟨b, off, none⟩, cap, (List.range len).map f, by simp, by simpa using hl, hm, ⟨nodes_of_cells fun i hi => by simp at hi; simpa using (hf i hi).1, fun n hn => ?_⟩, fun n hn => ?_⟩
    · obtain ⟨i, hi, rfl⟩ := List.mem_map.1 hn
      exact (hf i (List.mem_range.1 hi)).2.1
    · obtain ⟨i, hi, rfl⟩ := List.mem_map.1 hn
      exact (hf i (List.mem_range.1 hi)).2.2
set_option maxRecDepth 100000 in
theorem open_chainV {v : Value} {d : DataW H} {p : List MemPlace} (r : Reach) (b0 : Nat) (hsp : spare = fun _ => true) (hv : Value.okWide Tryd.prog w r b0 48 v) (h : DataW.Trod enc Tryd.prog w base spare held 48 v d p) : IsChainV w v := by
  obtain ⟨c0, c1, y0, y1, m, rfl, _, _, h0, h1⟩ := open_agg2 Tryd.underlying48 (by kernel_rfl) (by kernel_rfl) hv h
  obtain ⟨n, rfl, hn⟩ := trod_i64 h0
  exact ⟨n, c1, rfl, hn, trod_nodes hsp h1⟩
end

end Go.Proofs.YtebklbncfcdkmaaDoor
