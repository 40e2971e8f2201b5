
/-
  What is known of the moves of plans, in plain lists. No statement is proved here.
-/
import Derived.Test.YtebklbncfcdkmaaX13
import Derived.Test.YtebklbncfcdkmaaX17
namespace Go.Proofs.Ytebklbncfcdkmaa

theorem plan_fresh {ps ss ds : List Int} {m p : Int} (h : planOk ps ss ds m = true) (hp : p ∈ ps) : placeOk p (goneP ss ds) m = true := by
  obtain ⟨⟨_, h1⟩, ⟨h2, h3⟩, _, h4, h5⟩ := planOk_iff.1 h
  have hs : (goneP ss ds).Sublist ss := List.filter_sublist
  exact placeOk_iff.2 ⟨asc_valid h1 p hp, ⟨Nat.le_trans hs.length_le h2, asc_of_sub h3 hs⟩, h4, h5⟩
theorem mem_goneP {x : Int} {xs ys : List Int} : x ∈ goneP xs ys ↔ x ∈ xs ∧ x ∉ ys := by simp [goneP]
theorem mem_moveP {ss ds : List Int} {m p : Int} {v : Mv} (h : v ∈ moveP ss ds m p) : v.1 = p ∧ v.2.1 ∈ placeR p ss m ∧ v.2.1 ∉ ds ∧ v.2.2 ∈ placeR p (goneP ss ds) m ∧ v.2.2 ∉ placeR p ss m := by
  unfold moveP at h
  cases hl : goneP (placeR p ss m) ds with
  | nil => rw [hl] at h; cases h
  | cons f l =>
    rw [hl] at h
    obtain ⟨t, ht, rfl⟩ := List.mem_map.1 h
    have hf : f ∈ goneP (placeR p ss m) ds := by rw [hl]; exact List.mem_cons_self
    exact ⟨rfl, (mem_goneP.1 hf).1, (mem_goneP.1 hf).2, (mem_goneP.1 ht).1, (mem_goneP.1 ht).2⟩
/-- What FnPlan asks of each move. -/
theorem plan_move {ps ss ds : List Int} {m : Int} {v : Mv} (h : planOk ps ss ds m = true) (hv : v ∈ planL ps ss ds m) :
    placeOk v.1 ss m = true ∧ v.1 ∈ ps ∧ v.2.1 ∈ placeR v.1 ss m ∧ v.2.1 ∉ ds ∧ v.2.2 ∉ placeR v.1 ss m ∧ v.2.2 ∉ ds ∧ v.2.2 ∈ ss := by
  unfold planL at hv
  obtain ⟨p, hp, hv⟩ := List.mem_flatMap.1 hv
  obtain ⟨rfl, h1, h2, h3, h4⟩ := mem_moveP hv
  have h5 := mem_goneP.1 (placeR_valid _ h3).2
  exact ⟨plan_place h hp, hp, h1, h2, h4, h5.2, h5.1⟩
theorem goneP_nil (xs : List Int) : goneP xs [] = xs := by simp [goneP]
theorem plan_none {ps ss ds : List Int} {m : Int} (h : planOk ps ss ds m = true) : planOk ps ss [] m = true ∧ planL ps ss [] m = [] := by
  obtain ⟨h1, h2, h3, h4, h5⟩ := planOk_iff.1 h
  refine ⟨planOk_iff.2 ⟨h1, h2, ⟨by simp, rfl⟩, h4, ?_⟩, ?_⟩
  · rw [goneP_nil]
    have := goneP_len ss ds
    omega
  · unfold planL
    rw [List.flatMap_eq_nil_iff]
    intro p _
    unfold moveP
    rw [goneP_nil, goneP_nil, goneP_self]
    split <;> rfl
theorem plan_cut {ps ss ds : List Int} {m : Int} (k : Nat) (h : planOk ps ss ds m = true) : planOk (ps.take k) ss ds m = true ∧ planOk (ps.drop k) ss ds m = true ∧ planL (ps.take k) ss ds m ++ planL (ps.drop k) ss ds m = planL ps ss ds m := by
  obtain ⟨⟨h1, h1'⟩, h2⟩ := planOk_iff.1 h
  refine ⟨planOk_iff.2 ⟨⟨by simp; omega, asc_of_sub h1' (List.take_sublist _ _)⟩, h2⟩, planOk_iff.2 ⟨⟨by simp; omega, asc_of_sub h1' (List.drop_sublist _ _)⟩, h2⟩, ?_⟩
  unfold planL
  rw [← List.flatMap_append, List.take_append_drop]

/-- How many moves a piece has. -/
theorem fresh_split {L : List Int} (hn : L.Nodup) (f : Int → Bool) (n : Nat) (hl : n ≤ (L.filter f).length) : (goneP ((L.filter f).take n) (L.take n)).length + ((L.take n).filter f).length = n := by
  have e1 : L.filter f = (L.take n).filter f ++ (L.drop n).filter f := by rw [← List.filter_append, List.take_append_drop]
  have h1 : ((L.take n).filter f).length ≤ n := Nat.le_trans (List.length_filter_le _ _) (by rw [List.length_take]; omega)
  have hdis : ∀ x ∈ L.drop n, x ∉ L.take n := by
    have := hn
    rw [← List.take_append_drop n L] at this
    intro x hx hx'
    exact (List.nodup_append.1 this).2.2 x hx' x hx rfl
  have e2 : (L.filter f).take n = (L.take n).filter f ++ ((L.drop n).filter f).take (n - ((L.take n).filter f).length) := by
    conv => lhs; rw [e1]
    rw [List.take_append, List.take_of_length_le h1]
  have e3 : goneP ((L.filter f).take n) (L.take n) = ((L.drop n).filter f).take (n - ((L.take n).filter f).length) := by
    rw [e2]
    unfold goneP
    rw [List.filter_append]
    have a : ((L.take n).filter f).filter (fun x => !decide (x ∈ L.take n)) = [] := by
      rw [List.filter_eq_nil_iff]
      intro x hx
      simp [(List.mem_filter.1 hx).1]
    have b : (((L.drop n).filter f).take (n - ((L.take n).filter f).length)).filter (fun x => !decide (x ∈ L.take n)) = ((L.drop n).filter f).take (n - ((L.take n).filter f).length) := by
      rw [List.filter_eq_self]
      intro x hx
      have := hdis x (List.mem_filter.1 (List.mem_of_mem_take hx)).1
      simpa using this
    rw [a, b, List.nil_append]
  have e4 := congrArg List.length e1
  rw [List.length_append] at e4
  rw [e3, List.length_take]
  omega
theorem fresh_count {ps ss ds : List Int} {m p : Int} (h : planOk ps ss ds m = true) (hp : p ∈ ps) : ((goneP (placeR p (goneP ss ds) m) (placeR p ss m)).length : Int) + (goneP (placeR p ss m) ds).length = (placeR p ss m).length := by
  have h1 := plan_place h hp
  have h2 := plan_fresh h hp
  have h3 := placeR_length h1
  obtain ⟨_, ⟨_, hs⟩, h4, h5⟩ := planOk_iff.1 h
  have hn := asc_nodup hs
  have h6 := placeR_length h2
  have hgl := h5.2
  rw [h3]
  rw [placeR_yes h1, placeR_yes h2]
  unfold placeP
  have hr : rankP p (goneP ss ds) = (rankP p ss).filter fun x => !decide (x ∈ ds) := rankP_filter p _ hn
  have key := fresh_split (rankP_nodup (p := p) hn) (fun x => !decide (x ∈ ds)) m.toNat (by rw [← hr, rankP_len]; omega)
  rw [hr]
  have : goneP ((rankP p ss).take m.toNat) ds = ((rankP p ss).take m.toNat).filter fun x => !decide (x ∈ ds) := rfl
  rw [this]
  omega

end Go.Proofs.Ytebklbncfcdkmaa
