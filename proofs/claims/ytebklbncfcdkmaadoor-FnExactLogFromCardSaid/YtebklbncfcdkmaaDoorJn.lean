
/-
  Resources that a callee has made join those of the caller. No program, no statement.
-/
import Derived.Test.YtebklbncfcdkmaaDoorSt
namespace Go.Proofs.YtebklbncfcdkmaaDoor
open Go.RowKit

theorem St.new_ge : ∀ {w0 w : World} {rs : List Res}, St w0 w rs → ∀ z ∈ rs, ∀ b, z.blk = some b → w0.heap.size ≤ b
  | _, _, [], _, z, hz, _, _ => by cases hz
  | _, _, r :: rs, h, z, hz, b, hb => by
    rcases List.mem_cons.1 hz with rfl | hz
    · exact (h.2.1 b hb).1
    · exact St.new_ge h.2.2.2 z hz b hb
/-- What a callee has made, ahead of what the caller has. -/
theorem St.join {w0 w w' : World} {rs : List Res} (h : St w0 w rs) : ∀ {ns : List Res}, St w w' ns → St w0 w' (ns ++ rs)
  | [], k => h.call k
  | r :: ns, k => by
    obtain ⟨h1, h2, h3, hr⟩ := k
    refine ⟨h1, fun b hb => ⟨Nat.le_trans h.size (h2 b hb).1, (h2 b hb).2⟩, fun z hz => ?_, h.join hr⟩
    rcases List.mem_append.1 hz with hz | hz
    · exact h3 z hz
    · cases hb : r.blk with
      | none => exact .inl hb
      | some b =>
        refine .inr fun e => ?_
        have := h.blk_lt z hz b (by rw [← e, hb])
        have := (h2 b hb).1
        omega
theorem St.only {w0 w : World} {r : Res} {rs : List Res} (h : St w0 w (r :: rs)) : St w0 w [r] := by
  refine ⟨h.1, h.2.1, ?_, h.below⟩
  intro z hz
  simp at hz
theorem St.first2 {w0 w : World} {r s : Res} {rs : List Res} (h : St w0 w (r :: s :: rs)) : St w0 w [r, s] := by
  refine ⟨h.1, h.2.1, fun z hz => h.2.2.1 z (by simp at hz; simp [hz]), h.drop.1, h.drop.2.1, fun z hz => by simp at hz, h.below⟩

end Go.Proofs.YtebklbncfcdkmaaDoor
