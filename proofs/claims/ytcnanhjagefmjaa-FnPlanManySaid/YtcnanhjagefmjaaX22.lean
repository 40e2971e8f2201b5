
/-
  How many moves a piece has, in plain lists. No statement is proved here.
-/
import Derived.Test.YtcnanhjagefmjaaX20
namespace Go.Proofs.Ytcnanhjagefmjaa

def cntP (R : List Mv) (x : Int) : Nat := (R.filter fun v => decide (v.1 = x)).length
theorem cntP_le (R : List Mv) (x : Int) : cntP R x ≤ R.length := List.length_filter_le _ _
theorem cntP_append (R S : List Mv) (x : Int) : cntP (R ++ S) x = cntP R x + cntP S x := by simp [cntP]
theorem cntP_snoc (R : List Mv) (v : Mv) (x : Int) : cntP (R ++ [v]) x = cntP R x + (if v.1 = x then 1 else 0) := by
  unfold cntP
  rw [List.filter_append]
  by_cases h : v.1 = x
  · simp [h]
  · simp [h]
theorem cntP_move {ss ds : List Int} {m p x : Int} : cntP (moveP ss ds m p) x = if p = x then (moveP ss ds m p).length else 0 := by
  unfold cntP
  split
  · rename_i h
    rw [List.filter_eq_self.2]
    intro v hv
    simp [(mem_moveP hv).1, h]
  · rename_i h
    rw [List.filter_eq_nil_iff.2]
    · rfl
    · intro v hv
      simp [(mem_moveP hv).1, h]
theorem cntP_plan {ss ds : List Int} {m x : Int} : ∀ ps : List Int, ps.Nodup → cntP (planL ps ss ds m) x = if x ∈ ps then (moveP ss ds m x).length else 0
  | [], _ => by simp [planL, cntP]
  | p :: ps, h => by
    obtain ⟨h1, h2⟩ := List.nodup_cons.1 h
    have e : planL (p :: ps) ss ds m = moveP ss ds m p ++ planL ps ss ds m := by simp [planL]
    rw [e, cntP_append, cntP_plan ps h2, cntP_move]
    by_cases hp : p = x
    · subst hp; simp [h1]
    · have hp' : ¬ x = p := fun e => hp e.symm
      simp [hp, hp']
theorem plan_many {ps ss ds : List Int} {m x : Int} (h : planOk ps ss ds m = true) (hx : x ∈ ps) :
    ((cntP (planL ps ss ds m) x : Nat) : Int) = if ((placeR x ss m).length : Int) - (goneP (placeR x ss m) ds).length = (placeR x ss m).length then 0 else ((placeR x ss m).length : Int) - (goneP (placeR x ss m) ds).length := by
  have h1 := cntP_plan (ss := ss) (ds := ds) (m := m) (x := x) ps (asc_nodup (planOk_iff.1 h).1.2)
  rw [if_pos hx] at h1
  rw [h1]
  have h2 := fresh_count h hx
  unfold moveP
  cases hl : goneP (placeR x ss m) ds with
  | nil => simp
  | cons f l =>
    rw [hl] at h2
    simp only [List.length_map, List.length_cons] at h2 ⊢
    rw [if_neg (by omega)]
    omega

end Go.Proofs.Ytcnanhjagefmjaa
