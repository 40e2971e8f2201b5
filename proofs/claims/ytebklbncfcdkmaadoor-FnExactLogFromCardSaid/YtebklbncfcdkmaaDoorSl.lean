
/-
  A slice cut at its lower end, and at its upper, at once for all addresses. No statement is proved here.
-/
import Derived.Test.YtebklbncfcdkmaaDoorU1
namespace Go.Proofs.YtebklbncfcdkmaaDoor
open Go.RowKit

/-- Where a slice cut at its lower end lies. -/
def cutAt (a : Option Addr) (cap k size : Nat) : Option Addr := if cap = k then a else a.map (·.add (k * size))
theorem run_from {P : Program} (t e : TypeId) (size : Nat) (a : Option Addr) (len cap k : Nat) (hu : P.underlying t = some (.slice e)) (hs : (P.info? e).map (·.size) = some size) (hk : k ≤ len) (w : World) :
    (Instr.slice t (.slice a len cap) (some (.int .i64 k)) none none).run P w = .ok (.slice (cutAt a cap k size) (len - k) (cap - k)) w := by
  cases hq : P.info? e with
  | none => simp [hq] at hs
  | some i =>
    have hi : i.size = size := by simpa [hq] using hs
    have h1 : (0 : Int) ≤ (k : Int) ∧ (k : Int) ≤ (len : Int) := by omega
    simp [Instr.slice, run_underlying hu, Instr.sliceBounds, Instr.sliceBound, asIntOf, sizeOf, typeInfo, hq, hi, hk, cutAt]
theorem cells_from {w : World} {a : Option Addr} {cs : List Value} (h : CellsAt w a cs) (cap k size : Nat) (hc : cs.length ≤ cap * size) : CellsAt w (cutAt a cap k size) (cs.drop (k * size)) := by
  unfold cutAt
  by_cases h0 : cap = k
  · rw [if_pos h0]
    subst h0
    exact .inl (List.drop_of_length_le hc)
  · rw [if_neg h0]
    rcases h with rfl | ⟨b, off, rfl, hcell⟩
    · exact .inl (by simp)
    · refine .inr ⟨b, off + k * size, ?_, fun j hj => ?_⟩
      · simp [Addr.add]
      · simp at hj
        rw [Nat.add_assoc, hcell (k * size + j) (by omega), List.getElem?_drop]
theorem ucells_drop (us : List Upd) (k : Nat) : (ucells us).drop (k * 2) = ucells (us.drop k) := by
  induction us generalizing k with
  | nil => simp [ucells]
  | cons u r ih =>
    cases k with
    | zero => simp
    | succ k =>
      rw [show (k + 1) * 2 = k * 2 + 1 + 1 by omega]
      have e : ucells (u :: r) = .int .i64 u.1 :: .int .i64 u.2 :: ucells r := rfl
      rw [e]
      simpa using ih k
theorem upds_from {w : World} {a : Option Addr} {us : List Upd} (h : UpdsAt w a us) (cap k : Nat) (hc : us.length ≤ cap) : UpdsAt w (cutAt a cap k 2) (us.drop k) := by
  have := cells_from h cap k 2 (by rw [ucells_len]; omega)
  rw [ucells_drop] at this
  exact this
theorem info_upd2 : (Tryd.prog.info? 25).map (·.size) = some 2 := by kernel_rfl

end Go.Proofs.YtebklbncfcdkmaaDoor
