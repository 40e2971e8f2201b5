
/-
  What the library's stand-ins of reflection give at the program's own error. No statement is proved here.
-/
import Derived.Test.YtebklbncfcdkmaaDoorYG
namespace Go.Proofs.YtebklbncfcdkmaaDoor
open Go.RowKit

/-- The handle of a type, as the model makes it: the seven variables of the cut lie ahead of the handles' block. -/
abbrev hdl (t : TypeId) : Value := .pointer (some ⟨7, t, none⟩)
abbrev rty (t : TypeId) : Value := .iface 127 (.agg #[hdl t])

theorem run_bind_of {α β : Type} {P : Program} {w w' : World} {x : Sem α} {m : Sem β} {F : β → Sem α} {v : β} (h : x = m >>= F) (hm : m.run P w = .ok v w') : x.run P w = (F v).run P w' := by
  rw [h, Sem.run_bind, hm]; rfl

theorem valueOf_target (a : Addr) (w : World) : (callFunc 79 #[.iface 85 (.pointer (some a))]).run Tryd.prog w = .ok (.value (.agg #[hdl 85, .pointer (some ⟨w.heap.size, 0, none⟩), .int .u64 150])) (w.alloc (.cells #[.pointer (some a)] 85)) := by kernel_rfl
theorem valueOf_err (i : Int) (w : World) : (callFunc 79 #[.iface 83 (.agg #[.int .i64 i])]).run Tryd.prog w = .ok (.value (.agg #[hdl 83, .pointer (some ⟨w.heap.size, 0, none⟩), .int .u64 153])) (w.alloc (.cells #[.int .i64 i] 83)) := by kernel_rfl
theorem type_target (a : Addr) (w : World) : (callFunc 80 #[.agg #[hdl 85, .pointer (some a), .int .u64 150]]).run Tryd.prog w = .ok (.value (rty 85)) w := by kernel_rfl
theorem isNil_target (a b : Addr) (w : World) (h : w.cell? a = some (.pointer (some b))) : (callFunc 81 #[.agg #[hdl 85, .pointer (some a), .int .u64 150]]).run Tryd.prog w = .ok (.value (.bool false)) w := by
  rw [run_callFunc_extern Tryd.func81 (by kernel_rfl) (by kernel_rfl) (by kernel_rfl) (e := Extern.ReflectliteValue.method (Extern.ReflectliteValue.valueError "reflectlite.Value.IsNil" 0) Extern.ReflectliteValue.isNil) (by kernel_rfl)]
  have e1 : (Extern.ReflectliteValue.parts (.agg #[hdl 85, .pointer (some a), .int .u64 150])).run Tryd.prog w = .ok (some (85, a, 150)) w := by kernel_rfl
  have e2 : (isAgg 85).run Tryd.prog w = .ok false w := by kernel_rfl
  rw [run_bind_of (m := Extern.ReflectliteValue.parts (.agg #[hdl 85, .pointer (some a), .int .u64 150])) (x := Extern.ReflectliteValue.method (Extern.ReflectliteValue.valueError "reflectlite.Value.IsNil" 0) Extern.ReflectliteValue.isNil #[.agg #[hdl 85, .pointer (some a), .int .u64 150]]) rfl e1]
  simp [Extern.ReflectliteValue.isNil, loadVar, e2, h]
theorem typeOf_err (i : Int) (w : World) : (callFunc 90 #[.iface 83 (.agg #[.int .i64 i])]).run Tryd.prog w = .ok (.value (rty 83)) w := by kernel_rfl
theorem elem_val (a b : Addr) (w : World) (h : w.cell? a = some (.pointer (some b))) : (callFunc 91 #[.agg #[hdl 85, .pointer (some a), .int .u64 150]]).run Tryd.prog w = .ok (.value (.agg #[hdl 83, .pointer (some b), .int .u64 409])) w := by
  rw [run_callFunc_extern Tryd.func91 (by kernel_rfl) (by kernel_rfl) (by kernel_rfl) (e := Extern.ReflectliteValue.method (Extern.ReflectliteValue.valueError "reflectlite.Value.Elem" 0) Extern.ReflectliteValue.elem) (by kernel_rfl)]
  have e1 : (Extern.ReflectliteValue.parts (.agg #[hdl 85, .pointer (some a), .int .u64 150])).run Tryd.prog w = .ok (some (85, a, 150)) w := by kernel_rfl
  have e2 : (isAgg 85).run Tryd.prog w = .ok false w := by kernel_rfl
  have e3 : (Extern.Rtype.elem? 85).run Tryd.prog w = .ok (some 83) w := by kernel_rfl
  have e4 : (Extern.ReflectliteValue.mk 83 b Extern.ReflectliteValue.flagAddr).run Tryd.prog w = .ok (.agg #[hdl 83, .pointer (some b), .int .u64 409]) w := by kernel_rfl
  rw [run_bind_of (m := Extern.ReflectliteValue.parts (.agg #[hdl 85, .pointer (some a), .int .u64 150])) (x := Extern.ReflectliteValue.method (Extern.ReflectliteValue.valueError "reflectlite.Value.Elem" 0) Extern.ReflectliteValue.elem #[.agg #[hdl 85, .pointer (some a), .int .u64 150]]) rfl e1]
  simp [Extern.ReflectliteValue.elem, loadVar, e2, e3, e4, h]
theorem elem_type (w : World) : (callFunc 143 #[.agg #[hdl 85]]).run Tryd.prog w = .ok (.value (rty 83)) w := by kernel_rfl
theorem implements_err (w : World) : (callFunc 144 #[.agg #[hdl 83], rty 66]).run Tryd.prog w = .ok (.value (.bool true)) w := by kernel_rfl
theorem assignable_err (w : World) : (callFunc 141 #[.agg #[hdl 83], rty 83]).run Tryd.prog w = .ok (.value (.bool true)) w := by kernel_rfl
theorem set_err (i : Int) (gb ga : Nat) (w : World) (h : w.cell? ⟨ga, 0, none⟩ = some (.int .i64 i)) (u : Value) (hb : w.cell? ⟨gb, 0, none⟩ = some u) (hf : w.frozen? ⟨gb, 0, none⟩ = false) : (callFunc 92 #[.agg #[hdl 83, .pointer (some ⟨gb, 0, none⟩), .int .u64 409], .agg #[hdl 83, .pointer (some ⟨ga, 0, none⟩), .int .u64 153]]).run Tryd.prog w = .ok (.value (.tuple #[])) (w.setCell ⟨gb, 0, none⟩ (.int .i64 i)) := by
  rw [run_callFunc_extern Tryd.func92 (by kernel_rfl) (by kernel_rfl) (by kernel_rfl) (e := Extern.ReflectliteValue.set) (by kernel_rfl)]
  have e1 : (Extern.ReflectliteValue.parts (.agg #[hdl 83, .pointer (some ⟨gb, 0, none⟩), .int .u64 409])).run Tryd.prog w = .ok (some (83, ⟨gb, 0, none⟩, 409)) w := by kernel_rfl
  have e2 : (Extern.ReflectliteValue.parts (.agg #[hdl 83, .pointer (some ⟨ga, 0, none⟩), .int .u64 153])).run Tryd.prog w = .ok (some (83, ⟨ga, 0, none⟩, 153)) w := by kernel_rfl
  have e3 : (isAgg 83).run Tryd.prog w = .ok true w := by kernel_rfl
  have e5 : (Extern.Rtype.directlyAssignable 83 83).run Tryd.prog w = .ok true w := by kernel_rfl
  rw [run_bind_of (m := Extern.ReflectliteValue.parts (.agg #[hdl 83, .pointer (some ⟨gb, 0, none⟩), .int .u64 409])) (x := Extern.ReflectliteValue.set #[.agg #[hdl 83, .pointer (some ⟨gb, 0, none⟩), .int .u64 409], .agg #[hdl 83, .pointer (some ⟨ga, 0, none⟩), .int .u64 153]]) rfl e1]
  refine (congrArg (fun r => Result.andThen r _) (run_bind_of (m := Extern.ReflectliteValue.parts (.agg #[hdl 83, .pointer (some ⟨ga, 0, none⟩), .int .u64 153])) rfl e2)).trans ?_
  have a0 : (⟨ga, 0, none⟩ : Addr).add 0 = ⟨ga, 0, none⟩ := rfl
  have b0 : (⟨gb, 0, none⟩ : Addr).add 0 = ⟨gb, 0, none⟩ := rfl
  have st : (store ⟨gb, 0, none⟩ (.int .i64 i)).run Tryd.prog w = .ok () (w.setCell ⟨gb, 0, none⟩ (.int .i64 i)) := by
    rw [run_store _ _ _ _ _ rfl, hb]
    simp [hf]
  simp [a0, b0, e3, e5, loadVar, loadCells, loadCellsFrom, storeVar, storeCells, h, st, Extern.ReflectliteValue.flagAddr, Value.cells]
end Go.Proofs.YtebklbncfcdkmaaDoor
