
/-
  The walks of CountCopies and CountSafe. No statement is proved here.
-/
import Derived.Test.YtebklbncfcdkmaaDoorC6
import Derived.Laws.OwnMore
namespace Go.Proofs.YtebklbncfcdkmaaDoor
open Go.RowKit

theorem make_ints (L : Nat) (hL : L ≤ 1000000000) (w : World) : (Instr.makeSlice 96 (.int .i64 (L : Int)) (.int .i64 (L : Int))).run Tryd.prog w = .ok (.slice (some ⟨w.heap.size, 0, none⟩) L L) (w.alloc (.cells (Array.replicate L (Value.int .i64 0)) 3)) := by
  obtain ⟨ht, i, z, hi, hz, hsize, hby, _, _⟩ := elem_int
  have hz' : z = .int .i64 0 := by
    have h0 : ((Tryd.prog.info? 3).bind (·.zero)) = some (.int .i64 0) := by kernel_rfl
    rw [hi] at h0
    simp only [Option.bind_some] at h0
    rw [hz] at h0
    exact Option.some.inj h0
  subst hz'
  rw [run_make w 96 3 i _ ht hi hz .i64 .i64 L L (by omega) (by omega) (by rw [hby]; omega) (by omega), hsize]
  have e : madeCells (Value.cells (.int .i64 0)) (L * 1) = Array.replicate L (Value.int .i64 0) := by
    rw [Nat.mul_one, ← Array.toList_inj, Array.toList_replicate]
    exact toList_madeCells_one _ _
  rw [Int.toNat_natCast, e]

/-- How many of these nodes have update j. -/
def cnt (ns : List Nd) (j : Nat) : Nat := (ns.filter fun n => decide (j < n.us.length)).length
theorem cnt_nil (j : Nat) : cnt [] j = 0 := rfl
theorem cnt_cons (n : Nd) (ns : List Nd) (j : Nat) : cnt (n :: ns) j = cnt ns j + if j < n.us.length then 1 else 0 := by
  unfold cnt
  rw [List.filter_cons]
  by_cases h : j < n.us.length <;> simp [h]
theorem cnt_append (ns ms : List Nd) (j : Nat) : cnt (ns ++ ms) j = cnt ns j + cnt ms j := by simp [cnt]
theorem cnt_le (ns : List Nd) (j : Nat) : cnt ns j ≤ ns.length := List.length_filter_le _ _
/-- The values of f, L of them. -/
def vec (L : Nat) (f : Nat → Nat) : List Int := (List.range L).map fun j => (f j : Int)
theorem vec_len (L : Nat) (f : Nat → Nat) : (vec L f).length = L := by simp [vec]
theorem vec_cell {L : Nat} {f : Nat → Nat} {j : Nat} (h : j < L) : ((vec L f).map (Value.int .i64))[j]? = some (.int .i64 (f j)) := by simp [vec, h]
theorem vec_ext {L : Nat} {f g : Nat → Nat} (h : ∀ j, j < L → f j = g j) : vec L f = vec L g := by
  unfold vec
  apply List.map_congr_left
  intro j hj
  rw [h j (List.mem_range.1 hj)]
theorem vec_set {L : Nat} {f : Nat → Nat} {i : Nat} : ((vec L fun j => f j + if j < i then 1 else 0).map (Value.int .i64)).set i (.int .i64 ((f i : Int) + 1)) = (vec L fun j => f j + if j < i + 1 then 1 else 0).map (Value.int .i64) := by
  apply List.ext_getElem
  · simp [vec]
  · intro j h1 h2
    simp [vec] at h1 h2
    rw [List.getElem_set]
    by_cases hj : i = j
    · subst hj; simp [vec]
    · rw [if_neg hj]
      simp only [vec, List.getElem_map, List.getElem_range]
      congr 2
      by_cases h : j < i
      · rw [if_pos h, if_pos (by omega)]
      · rw [if_neg h, if_neg (by omega)]
theorem vec_zero (L : Nat) : vec L (fun _ => 0) = List.replicate L 0 := by
  unfold vec
  rw [List.map_const']
  simp

theorem drop_nd {ns : List Nd} {m : Nat} (h : m < ns.length) : ns.drop m = nd ns m :: ns.drop (m + 1) := by rw [nd_eq h]; exact List.drop_eq_getElem_cons h
/-- How long the stack in block G is. -/
def stackLen (w : World) (G : Nat) : Nat := match w.cell? ⟨G, 0, none⟩ with
  | some (.slice _ n _) => n
  | _ => 0
theorem stackLen_of {w : World} {G n cap : Nat} {a : Option Addr} (h : w.cell? ⟨G, 0, none⟩ = some (.slice a n cap)) : stackLen w G = n := by rw [stackLen, h]
noncomputable def copiesOf (view : Int) (ns : List Nd) : List Int := if chainOk view ns = true then vec (nd ns 0).us.length (cnt ns) else []
theorem chain_logs {view : Int} {ns : List Nd} (h : chainOk view ns = true) : ∀ i, i < ns.length → (nd ns i).us.length ≤ (nd ns 0).us.length ∧ (nd ns i).us.length ≤ 12 := by
  obtain ⟨_, _, hst, _⟩ := chainOk_iff.1 h
  intro i
  induction i with
  | zero => intro hi; exact ⟨Nat.le_refl _, (logOk_all (nodeOk_parts (hst 0 hi).1).2.1).1⟩
  | succ i ih =>
    intro hi
    have h1 := (hst (i + 1) hi).2.2 (by omega)
    exact ⟨Nat.le_trans h1.1.length_le (ih (by omega)).1, (logOk_all (nodeOk_parts (hst _ hi).1).2.1).1⟩

end Go.Proofs.YtebklbncfcdkmaaDoor
