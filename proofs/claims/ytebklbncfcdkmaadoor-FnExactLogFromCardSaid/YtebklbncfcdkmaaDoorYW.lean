
/-
  A world in which the listed variables lie as the rows of the laws on reading say: the witness. No statement is proved here.
-/
import Derived.Test.YtebklbncfcdkmaaDoorRows
import Derived.LaidMore
import Derived.Lay
import Derived.LaidHandle
import Derived.Stop.Joined
namespace Go.Proofs.YtebklbncfcdkmaaDoor

/-- The listed variables but the handle. -/
def wlaid : List (String × DataW Unit) := Rows.fnExactLogFromRow.laid.filter fun x => x.2.handleName?.isNone
/-- The door's own heap, the tables laid in it. -/
noncomputable def wit (os : Os) : World := (World.doorLaid Tryd.prog 70 os).layVars Tryd.prog wlaid
theorem wit_os (os : Os) : (wit os).os = os := World.layVars_os _ _ _
theorem laid_all {P : Program} {w0 : World} {l : List (String × DataW Unit)} (hf : w0.layFits P l [] = true) (hi : w0.layIfaces P l (w0.layVars P l) = true) : laidMet P l (w0.layVars P l) := by
  have e1 : (l.filter fun x => (l.map (·.1)).contains x.1) = l := List.filter_eq_self.2 fun x hx => List.contains_iff_mem.2 (List.mem_map_of_mem hx)
  have e2 : (l.filter fun x => !(l.map (·.1)).contains x.1) = [] := List.filter_eq_nil_iff.2 fun x hx => by
    rw [List.contains_iff_mem.2 (List.mem_map_of_mem hx)]; simp
  refine laidMet_layVars (w0 := w0) (l.map (·.1)) [] ?_ ?_ ?_ ?_
  · rw [e1]
  · rw [e1]; exact hf
  · rw [e1]; exact hi
  · rw [e2]; exact LaidIn.none
set_option maxRecDepth 100000 in
theorem wit_fits (os : Os) : (World.doorLaid Tryd.prog 70 os).layFits Tryd.prog wlaid [] = true := by kernel_rfl
set_option maxRecDepth 100000 in
theorem wit_ifaces (os : Os) : (World.doorLaid Tryd.prog 70 os).layIfaces Tryd.prog wlaid (wit os) = true := by kernel_rfl
set_option maxRecDepth 100000 in
theorem wit_handle (os : Os) : ((Rows.fnExactLogFromRow.laid.filter fun x => x.2.handleName?.isSome).all (handleAtB Tryd.prog (wit os))) = true := by kernel_rfl
theorem wit_met (os : Os) (args : Array Value) : laidMetH Tryd.prog Rows.fnExactLogFromRow.laid ((wit os).forCall (fun _ _ => 0) ⟨#[], args, []⟩).memory := by
  have h : laidMetH Tryd.prog Rows.fnExactLogFromRow.laid (wit os) := laidMetH_of_parts (laid_all (wit_fits os) (wit_ifaces os)) (wit_handle os)
  exact laidMetH.of_heap (by simp [World.memory, World.forCall, Input.heap]) h
end Go.Proofs.YtebklbncfcdkmaaDoor
