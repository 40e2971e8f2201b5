
/-
  Behind all moves a piece is where it should be, in plain lists. No statement is proved here.
-/
import Derived.Test.YtebklbncfcdkmaaX20
import Derived.Test.YtebklbncfcdkmaaX16
namespace Go.Proofs.Ytebklbncfcdkmaa

def anyMv (R : List Mv) (x t : Int) : Bool := R.any fun v => decide (v.1 = x) && decide (v.2.2 = t)
theorem anyMv_snoc (R : List Mv) (v : Mv) (x t : Int) : anyMv (R ++ [v]) x t = (anyMv R x t || (decide (v.1 = x) && decide (v.2.2 = t))) := by simp [anyMv]
theorem plan_after {ps ss ds : List Int} {m x : Int} (h : planOk ps ss ds m = true) (hx : x ∈ ps) (hl : x ∉ lostL ps ss ds m) :
    ∀ t ∈ placeR x (goneP ss ds) m, (decide (t ∈ placeR x ss m) || anyMv (planL ps ss ds m) x t) = true := by
  intro t ht
  by_cases ho : t ∈ placeR x ss m
  · simp [ho]
  · have hn : goneP (placeR x ss m) ds ≠ [] := by
      intro e
      refine hl ((lost_mem hx).2 ?_)
      exact gone_zero.1 (by rw [e]; rfl)
    cases hg : goneP (placeR x ss m) ds with
    | nil => exact absurd hg hn
    | cons f l =>
      have hv : (x, f, t) ∈ moveP ss ds m x := by
        unfold moveP
        rw [hg]
        exact List.mem_map.2 ⟨t, mem_goneP.2 ⟨ht, ho⟩, rfl⟩
      have hm : (x, f, t) ∈ planL ps ss ds m := List.mem_flatMap.2 ⟨x, hx, hv⟩
      rw [Bool.or_eq_true]
      right
      unfold anyMv
      rw [List.any_eq_true]
      exact ⟨_, hm, by simp⟩

end Go.Proofs.Ytebklbncfcdkmaa
