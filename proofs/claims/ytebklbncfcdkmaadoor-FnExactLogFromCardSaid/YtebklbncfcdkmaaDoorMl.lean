
/-
  A region that draws its order, whose last operation waits for all others: the others are quiet in a class of worlds, the last one may do what it likes. No program, no statement.
-/
import Derived.Test.YtebklbncfcdkmaaDoorMx
import Derived.Deep.Quiet
namespace Go.Proofs.YtebklbncfcdkmaaDoor
open Go.RowKit
namespace Mix
section
variable {P : Program} {ops : Array Oper} {Q : Exit → Act → World → Prop} {C : World → Prop} {last : Nat} {R : Array Bool → Act → Prop}

def wpL (P : Program) (ops : Array Oper) (C : World → Prop) (R : Array Bool → Act → Prop) (last : Nat) : Nat → Array Bool → Act → Prop
  | 0, listed, a => Region.ready .any ops listed = [last] ∧ R listed a
  | fuel + 1, listed, a => Region.ready .any ops listed ≠ [] ∧ ∀ i ∈ Region.ready .any ops listed, qOp P ops C i (wpL P ops C R last fuel (listed.setIfInBounds i true)) a

theorem wpL_first {i : Nat} {oi : Oper} {v : Value} (hi : ops[i]? = some oi) (hsel : ∀ (j : Nat) (o : Oper) cs b, ops[j]? = some o → o.op ≠ .select cs b) (hlast : waitsB ops last i = true) :
    ∀ (fuel : Nat) (listed : Array Bool) (a : Act), Closed ops listed →
      (∀ j oj, ops[j]? = some oj → j ≠ i → listed.getD j true = false → (∀ e ∈ oj.after, Region.binds .any e = true → e.on ≠ i) → oi.apart ops oj = true) →
      i ∈ Region.ready .any ops listed → YieldsIn P ops C oi v a →
      wpL P ops C R last fuel (listed.setIfInBounds i true) (a.put oi.dst v) → wpL P ops C R last (fuel + 1) listed a := by
  intro fuel
  induction fuel with
  | zero =>
    intro listed a hcl _ hr hy H
    refine ⟨List.ne_nil_of_mem hr, fun j hj => ?_⟩
    by_cases hji : j = i
    · subst hji; exact hy.qOp hi H
    · have h1 := ready_mono hj hji
      rw [H.1, List.mem_singleton] at h1
      subst h1
      have hun : listed.getD i false = false := by
        have h0 := (mem_ready.1 hr).1
        rcases Nat.lt_or_ge i listed.size with h' | h'
        · simp [h'] at h0 ⊢; exact h0
        · simp [Array.getElem?_eq_none h'] at h0
      exact absurd hj (last_waits hcl hlast hun)
  | succ fuel ih =>
    intro listed a hcl hfree hr hy H
    refine ⟨List.ne_nil_of_mem hr, fun j hj => ?_⟩
    by_cases hji : j = i
    · subst hji; exact hy.qOp hi H
    · have h1 := H.2 j (ready_mono hj hji)
      obtain ⟨hjun, oj, hoj, hall⟩ := mem_ready.1 hj
      have hnot : ∀ e ∈ oj.after, Region.binds .any e = true → e.on ≠ i := fun e he hb heq => by
        have h1 := hall e he hb
        have h0 := (mem_ready.1 hr).1
        rw [heq] at h1
        rcases Nat.lt_or_ge i listed.size with h' | h'
        · simp [h'] at h0 h1; rw [h0] at h1; cases h1
        · simp [Array.getElem?_eq_none h'] at h1
      have h2 := qOp_put hoj (hfree j oj hoj hji hjun hnot) (fun cs b => hsel i oi cs b hi) (fun cs b => hsel j oj cs b hoj) hy h1
      have hfree' : ∀ k ok, ops[k]? = some ok → k ≠ i → (listed.setIfInBounds j true).getD k true = false →
          (∀ e ∈ ok.after, Region.binds .any e = true → e.on ≠ i) → oi.apart ops ok = true := fun k ok hk hki hun hno => by
        refine hfree k ok hk hki ?_ hno
        by_cases hjk : j = k
        · subst hjk; exact hjun
        · rw [getD_set_ne true hjk] at hun; exact hun
      refine qOp_mono (fun a' h3 => ih (listed.setIfInBounds j true) a' (hcl.set hj) hfree' (ready_mono hr (Ne.symm hji)) h3.1 ?_) h2
      rw [Array.setIfInBounds_comm _ _ hji]
      exact h3.2

theorem wpL_lex (hs : Region.noSelect ops = true) : ∀ (is : List Nat) (listed : Array Bool) (a : Act), Closed ops listed → takeB ops last is listed = true → Region.ready .any ops (listAll listed is) = [last] → (∀ i ∈ is, (ops[i]?).isSome = true) →
    wpQuiet P ops C (R (listAll listed is)) (pickOps ops is) a → wpL P ops C R last is.length listed a
  | [], _, _, _, _, hR, _, h => ⟨hR, by simpa [pickOps, listAll, wpQuiet] using h⟩
  | i :: is, listed, a, hcl, hB, hR, hI, h => by
    simp only [takeB, Bool.and_eq_true] at hB
    obtain ⟨⟨⟨hw, hready⟩, hfree⟩, hB'⟩ := hB
    obtain ⟨o, ho⟩ := Option.isSome_iff_exists.1 (hI i (List.mem_cons_self ..))
    have e : pickOps ops (i :: is) = o :: pickOps ops is := by simp [pickOps, ho]
    rw [e] at h
    have hst : qOp P ops C i (wpQuiet P ops C (R (listAll (listed.setIfInBounds i true) is)) (pickOps ops is)) a := by unfold qOp; simp only [ho]; exact h
    obtain ⟨v, hy, hK⟩ := yieldsIn_of_qOp ho hst
    have hri : i ∈ Region.ready .any ops listed := by simpa using hready
    exact wpL_first ho (Region.noSelect_spec hs) hw is.length listed a hcl (Region.free_spec ho hfree) hri hy
      (wpL_lex hs is _ _ (hcl.set hri) hB' hR (fun j hj => hI j (List.mem_cons_of_mem _ hj)) hK)

theorem wpQuiet_mono' {K K' : Act → Prop} (h : ∀ a, K a → K' a) : ∀ (l : List Oper) (a : Act), wpQuiet P ops C K l a → wpQuiet P ops C K' l a
  | [], _, hh => h _ hh
  | o :: l, a, hh => by
    unfold wpQuiet at hh ⊢
    split
    · rename_i hw
      rw [if_pos hw] at hh
      exact Oper.quiet_mono (fun a => wpQuiet_mono' h l a) hh
    · rename_i hw
      rw [if_neg hw] at hh
      exact wpQuiet_mono' h l _ hh
theorem wpAny_of_wpL {ol : Oper} (hol : ops[last]? = some ol) (hg : ol.guard = none) : ∀ (fuel : Nat) (listed : Array Bool) (a : Act) (w : World), C w →
    wpL P ops C (fun listed a => Region.ready .any ops (listed.setIfInBounds last true) = [] ∧ ∀ w', C w' → ol.wp P a w' (fun a'' w'' => Q .normal a'' w'') Q) last fuel listed a → wpAny P .any ops Q (fuel + 1) listed a w
  | 0, listed, a, w, hw, h => by
    refine ⟨fun h0 => (by rw [h.1] at h0; cases h0), fun i hi => ?_⟩
    rw [h.1, List.mem_singleton] at hi
    subst hi
    unfold wpOp
    simp only [hol]
    rw [if_pos (by simp [Region.wanted, hg])]
    refine .inl (Oper.wp_mono (fun a' w' h' => ?_) (h.2.2 w hw))
    exact ⟨h.2.1, h'⟩
  | fuel + 1, listed, a, w, hw, h => by
    exact ⟨fun h0 => absurd h0 h.1, fun i hi => wpOp_of_qOp hw (fun a' w' hw' => wpAny_of_wpL hol hg fuel _ a' w' hw') (h.2 i hi)⟩

def lastB (ops : Array Oper) (last : Nat) : Bool :=
  Region.noSelect ops && (closedB ops (Array.replicate ops.size false) && (takeB ops last (List.range last) (Array.replicate ops.size false) && ((List.range last).all fun i => (ops[i]?).isSome) &&
    (Region.ready .any ops (listAll (Array.replicate ops.size false) (List.range last)) == [last] && Region.ready .any ops ((listAll (Array.replicate ops.size false) (List.range last)).setIfInBounds last true) == [])))

theorem run_last {l : List Oper} {id : Nat} {a : Act} {w : World} {ol : Oper} (C : World → Prop) (last : Nat) (hm : P.follows .mixedOrders = true) (hB : lastB l.toArray last = true) (hl : l.length = last + 1) (hol : l.toArray[last]? = some ol) (hg : ol.guard = none) (hC : C w.drew)
    (h : wpQuiet P l.toArray C (fun a' => ∀ w', C w' → ol.wp P a' w' (fun a'' w'' => Q .normal a'' w'') Q) (pickOps l.toArray (List.range last)) a) : (Code.region id l.toArray true).wp P Q a w := by
  unfold lastB at hB
  simp only [Bool.and_eq_true, beq_iff_eq] at hB
  obtain ⟨hs, hc, ⟨ht, hi⟩, hr, hr2⟩ := hB
  rw [List.all_eq_true] at hi
  refine wp_region_any hm ?_
  rw [show l.toArray.size = last + 1 by simpa using hl] at *
  refine wpAny_of_wpL hol hg last _ _ _ hC ?_
  have h2 := wpL_lex (P := P) (C := C) (R := fun listed a => Region.ready .any l.toArray (listed.setIfInBounds last true) = [] ∧ ∀ w', C w' → ol.wp P a w' (fun a'' w'' => Q .normal a'' w'') Q) hs (List.range last) _ a (closed_of hc) ht hr hi ?_
  · simpa using h2
  · refine wpQuiet_mono' (fun a' ha => ⟨hr2, ha⟩) _ _ h
end
theorem run_last_grow {P : Program} {Q : Exit → Act → World → Prop} {l : List Oper} {id : Nat} {a : Act} {w : World} {ol : Oper} (is : List Nat) (last : Nat) (his : is = List.range last) (hm : P.follows .mixedOrders = true) (hB : lastB l.toArray last = true) (hl : l.length = last + 1) (hol : l.toArray[last]? = some ol) (hg : ol.guard = none)
    (h : wpQuiet P l.toArray (fun w' => ∃ x : Grown w, w' = grow w x) (fun a' => ∀ x : Grown w, ol.wp P a' (grow w x) (fun a'' w'' => Q .normal a'' w'') Q) (pickOps l.toArray is) a) : (Code.region id l.toArray true).wp P Q a w := by
  subst his
  refine run_last (fun w' => ∃ x : Grown w, w' = grow w x) last hm hB hl hol hg ⟨⟨w.drew, (Below.refl _ _).drew⟩, rfl⟩ (wpQuiet_mono' (fun a' ha => ?_) _ _ h)
  rintro _ ⟨x, rfl⟩
  exact ha x

end Mix
end Go.Proofs.YtebklbncfcdkmaaDoor
