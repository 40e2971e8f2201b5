
/-
  A region that draws its order, whose operations only read and whose callees read or make memory: one walk of the text's order. No program, no statement.
-/
import Derived.Test.YtebklbncfcdkmaaDoorSt
import Derived.BigQuiet
namespace Go.Proofs.YtebklbncfcdkmaaDoor
open Go.RowKit

theorem St.allocAt {w0 w : World} {rs : List Res} (h : St w0 w rs) (o : Obj) (n : Nat) (hn : w.heap.size = n) : St w0 (w.alloc o) (boxo n o :: rs) := hn ▸ h.alloc o
/-- A world that has grown out of W: what W had is as it was. -/
structure Grown (W : World) where
  out : World
  below : Below W.heap.size W out
instance (W : World) : Nonempty (Grown W) := ⟨⟨W, Below.refl _ _⟩⟩
def grow (W : World) (x : Grown W) : World := x.out
theorem grow_below {W : World} (x : Grown W) : Below W.heap.size W (grow W x) := x.below
theorem grow_cell {W : World} {b o : Nat} {v : Value} (h : W.cell? ⟨b, o, none⟩ = some v) (x : Grown W) : (grow W x).cell? ⟨b, o, none⟩ = some v := by
  show x.out.cell? _ = _
  rw [x.below.cell (p := ⟨b, o, none⟩) (lt_of_cell h)]; exact h

theorem wp_region_grow {P : Program} {id : Nat} {Q : Exit → Act → World → Prop} {a : Act} {w : World} {l : List Oper} (hm : P.follows .mixedOrders = true) (hB : Region.lexB .any l.toArray = true)
    (h : wpQuiet P l.toArray (fun w' => ∃ x : Grown w, w' = grow w x) (fun a' => ∀ w', (∃ x : Grown w, w' = grow w x) → Q .normal a' w') l a) : (Code.region id l.toArray true).wp P Q a w :=
  wp_region_quiet (C := fun w' => ∃ x : Grown w, w' = grow w x) hm hB ⟨⟨w.drew, ⟨rfl, rfl, rfl, Nat.le_refl _, fun _ _ => rfl⟩⟩, rfl⟩ (by simpa using h)

/-- A callee that reads or makes memory. -/
theorem Calls.grow_of {P : Program} {f : FuncId} {args : Array Value} {W : World} {x : Grown W} {v : Value}
    (h : Calls P f args (grow W x) fun e w' => e = .returned v ∧ Below (grow W x).heap.size (grow W x) w') : Calls P f args (grow W x) fun e w'' => e = .returned v ∧ ∃ y : Grown W, w'' = grow W y :=
  h.mono fun _ w' ⟨he, hb⟩ => ⟨he, ⟨w', x.below.trans (hb.mono x.below.size)⟩, rfl⟩
/-- A callee that leaves the world alone. -/
theorem Calls.grow_same {P : Program} {f : FuncId} {args : Array Value} {W : World} {x : Grown W} {v : Value}
    (h : Calls P f args (grow W x) fun e w' => e = .returned v ∧ grow W x = w') : Calls P f args (grow W x) fun e w'' => e = .returned v ∧ ∃ y : Grown W, w'' = grow W y :=
  h.mono fun _ _ ⟨he, hb⟩ => ⟨he, x, hb.symm⟩

end Go.Proofs.YtebklbncfcdkmaaDoor
