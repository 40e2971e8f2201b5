
/-
  The walks of the reference's CountCopies and of CountSafe. No statement is proved here.
-/
import Derived.Test.YtebklbncfcdkmaaDoorC7
namespace Go.Proofs.YtebklbncfcdkmaaDoor
open Go.RowKit

/-- What CountSafe gives. -/
noncomputable def safeOf (view : Int) (ns : List Nd) (fail : Int) : Int :=
  if chainOk view ns = true ∧ 0 ≤ fail ∧ fail < ns.length then (((copiesOf view ns).filter fun c => decide (fail < c)).length : Int) else -1
theorem safe_bad1 {view : Int} {ns : List Nd} {fail : Int} (h : chainOk view ns = false) : safeOf view ns fail = -1 := by rw [safeOf, if_neg (by rw [h]; simp)]
theorem safe_bad2 {view : Int} {ns : List Nd} {fail : Int} (h : ¬ (0 ≤ fail ∧ fail < ns.length)) : safeOf view ns fail = -1 := by rw [safeOf, if_neg (fun hc => h hc.2)]
theorem safe_good {view : Int} {ns : List Nd} {fail : Int} (h : chainOk view ns = true) (h1 : 0 ≤ fail) (h2 : fail < ns.length) : safeOf view ns fail = ((copiesOf view ns).filter fun c => decide (fail < c)).length := by rw [safeOf, if_pos ⟨h, h1, h2⟩]
theorem copies_len {view : Int} {ns : List Nd} : (copiesOf view ns).length ≤ 12 := by
  unfold copiesOf
  split
  · rename_i h
    rw [vec_len]
    have := (chainOk_iff.1 h).2.1
    exact (chain_logs h 0 (by omega)).2
  · simp
theorem above_snoc {xs : List Int} {k : Nat} {f : Int} (h : k < xs.length) : ((xs.take (k + 1)).filter fun c => decide (f < c)).length = ((xs.take k).filter fun c => decide (f < c)).length + if f < xs[k] then 1 else 0 := by
  rw [take_snoc' xs k h, List.filter_append, List.length_append]
  by_cases hf : f < xs[k] <;> simp [hf]

end Go.Proofs.YtebklbncfcdkmaaDoor
