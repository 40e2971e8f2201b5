
/-
  The walks of the functions that draw a view. No statement is proved here.
-/
import Derived.Test.YtgpnbcdboofikaaD1
import Derived.Test.YtgpnbcdboofikaaK2
import Derived.Test.YtgpnbcdboofikaaFr
import Derived.Deep.DeepMust
namespace Go.Proofs.Ytgpnbcdboofikaa
open Go.RowKit

def lit5 (i : Nat) : Int := if i = 0 then 7 else if i = 1 then 3 else if i = 2 then 9 else if i = 3 then 1 else 5
theorem lit5_cell (w : World) (i : Nat) (t : TypeId) (h : i < 5) : (w.alloc (.cells #[.int .i64 7, .int .i64 3, .int .i64 9, .int .i64 1, .int .i64 5] t)).cell? ⟨w.heap.size, i, none⟩ = some (.int .i64 (lit5 i)) := by
  rw [cell_of_heap (heap_alloc_new w _)]
  match i, h with
  | 0, _ => rfl
  | 1, _ => rfl
  | 2, _ => rfl
  | 3, _ => rfl
  | 4, _ => rfl
theorem lit5_bd (i : Nat) : 0 ≤ lit5 i ∧ lit5 i ≤ 100 := by unfold lit5; omega

/-- Block V holds a view of this number, with these ids, in a row of the call's own. -/
def ViewBox (w : World) (B V : Nat) (num : Int) (v : Value) (xs : List Int) : Prop :=
  w.heap[V]? = some (.cells #[.int .i64 num, v] 36 (0, 0)) ∧ w.ownsRow B 3 1 v xs.length (xs.map (Value.int .i64)) ∧ v.ownBlock ≠ some V

def DrawnView (w : World) (b : Nat) (s : Value) (M : Nat) (e : Ending) (w' : World) : Prop :=
  ∃ (num : Int) (g cap : Nat) (xs : List Int), e = .returned (.agg #[.int .i64 num, .slice (some ⟨g, 0, none⟩) xs.length cap]) ∧ -1 ≤ num ∧ num ≤ 1000 ∧ 1 ≤ xs.length ∧ xs.length ≤ 5 ∧ (∀ x ∈ xs, 0 ≤ x ∧ x ≤ 100) ∧
    w'.ownsRow w.heap.size 3 1 (.slice (some ⟨g, 0, none⟩) xs.length cap) xs.length (xs.map (Value.int .i64)) ∧ Rd w' b s M ∧ w.grownBy w' (some b)

theorem drawn_end {w wi : World} {b m V : Nat} {s : Value} {num : Int} {g cap n : Nat} {xs : List Int} (hn0 : n = xs.length) (hbl : b < w.heap.size) (hn : -1 ≤ num ∧ num ≤ 1000) (h1 : 1 ≤ xs.length ∧ xs.length ≤ 5) (hx : ∀ x ∈ xs, 0 ≤ x ∧ x ≤ 100)
    (hb : ViewBox wi (w.heap.size + 1) V num (.slice (some ⟨g, 0, none⟩) n cap) xs) (hr : Rd wi b s (m + 5)) (hg : w.grownBy wi (some b)) :
    DrawnView w b s (m + 5) (.returned (.agg #[.int .i64 num, .slice (some ⟨g, 0, none⟩) n cap])) ((wi.setCell ⟨w.heap.size, 0, none⟩ (.int .i64 num)).setCell ⟨w.heap.size, 1, none⟩ (.slice (some ⟨g, 0, none⟩) n cap)) := by
  subst hn0
  have o1 := hb.2.1
  have hne : (Value.slice (some ⟨g, 0, none⟩) xs.length cap).ownBlock ≠ some w.heap.size := fun e => by have := (o1.lt _ e).1; omega
  refine ⟨num, g, cap, xs, rfl, hn.1, hn.2, h1.1, h1.2, hx, ?_, ?_, ?_⟩
  · refine ownsRow_mono ?_ (Nat.le_succ _)
    exact (o1.kept (grown_put wi ⟨w.heap.size, 0, none⟩ _) (.inr hne)).kept (grown_put _ ⟨w.heap.size, 1, none⟩ _) (.inr hne)
  · exact (hr.grown (grown_put wi ⟨w.heap.size, 0, none⟩ _) (by simp; omega)).grown (grown_put _ ⟨w.heap.size, 1, none⟩ _) (by simp; omega)
  · exact grown_setNew (grown_setNew hg (p := ⟨w.heap.size, 0, none⟩) (Nat.le_refl _) _) (p := ⟨w.heap.size, 1, none⟩) (Nat.le_refl _) _

def DrawnViewAlone (w : World) (e : Ending) (w' : World) : Prop :=
  ∃ (num : Int) (g cap : Nat) (xs : List Int), e = .returned (.agg #[.int .i64 num, .slice (some ⟨g, 0, none⟩) xs.length cap]) ∧ -1 ≤ num ∧ num ≤ 1000 ∧ 1 ≤ xs.length ∧ xs.length ≤ 5 ∧ (∀ x ∈ xs, 0 ≤ x ∧ x ≤ 100) ∧
    w'.ownsRow w.heap.size 3 1 (.slice (some ⟨g, 0, none⟩) xs.length cap) xs.length (xs.map (Value.int .i64)) ∧ Below w.heap.size w w'

end Go.Proofs.Ytgpnbcdboofikaa
