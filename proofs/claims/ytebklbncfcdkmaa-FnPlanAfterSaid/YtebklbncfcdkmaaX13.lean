
/-
  What is known of moved servers, in plain lists. No statement is proved here.
-/
import Derived.Test.YtebklbncfcdkmaaX9
namespace Go.Proofs.Ytebklbncfcdkmaa

theorem goneP_self (xs : List Int) : goneP xs xs = [] := by
  unfold goneP
  rw [List.filter_eq_nil_iff]
  intro x hx
  simp [hx]
theorem goneP_sub {xs ys zs : List Int} (h : xs.Sublist ys) : (goneP xs zs).length ≤ (goneP ys zs).length := (h.filter _).length_le
theorem gone_swap {xs ys : List Int} (hx : xs.Nodup) (hy : ys.Nodup) (hl : xs.length = ys.length) : (goneP xs ys).length = (goneP ys xs).length := by
  have e : (xs.filter fun x => decide (x ∈ ys)).length = (ys.filter fun y => decide (y ∈ xs)).length := by
    refine List.Perm.length_eq ((List.perm_ext_iff_of_nodup (hx.filter _) (hy.filter _)).2 fun a => ?_)
    simp [and_comm]
  have split : ∀ us vs : List Int, us.length = (us.filter fun x => decide (x ∈ vs)).length + (goneP us vs).length := by
    intro us vs
    unfold goneP
    induction us with
    | nil => rfl
    | cons u r ih =>
      by_cases h : u ∈ vs
      · simp [h]; omega
      · simp [h]; omega
  have h1 := split xs ys
  have h2 := split ys xs
  omega
theorem placeR_nodup {p : Int} {xs : List Int} {m : Int} : (placeR p xs m).Nodup := by
  cases h : placeOk p xs m with
  | false => rw [placeR_no h]; exact List.nodup_nil
  | true =>
    rw [placeR_yes h]
    exact (rankP_nodup (asc_nodup (placeOk_iff.1 h).2.1.2)).sublist (List.take_sublist _ _)
theorem placeR_length {p : Int} {xs : List Int} {m : Int} (h : placeOk p xs m = true) : ((placeR p xs m).length : Int) = m := by
  obtain ⟨_, _, h1, h2⟩ := placeOk_iff.1 h
  rw [placeR_yes h, placeP_len p xs _ (by omega)]
  omega
theorem moved_swap (p : Int) (a b : List Int) (m : Int) : movedR p b a m = movedR p a b m := by
  unfold movedR
  cases ha : placeOk p a m with
  | false => simp
  | true =>
    cases hb : placeOk p b m with
    | false => simp
    | true =>
      have := gone_swap (placeR_nodup (p := p) (xs := a) (m := m)) (placeR_nodup (p := p) (xs := b) (m := m)) (by have := placeR_length ha; have := placeR_length hb; omega)
      simp [this]
theorem moved_oks {p : Int} {a b : List Int} {m : Int} (h : 0 ≤ movedR p a b m) : placeOk p a m = true ∧ placeOk p b m = true := by
  unfold movedR at h
  cases ha : placeOk p a m with
  | false => rw [ha] at h; simp at h
  | true =>
    cases hb : placeOk p b m with
    | false => rw [ha, hb] at h; simp at h
    | true => exact ⟨rfl, rfl⟩
theorem moved_le {p : Int} {a b : List Int} {m : Int} (h : 0 ≤ movedR p a b m) : movedR p a b m ≤ m := by
  obtain ⟨ha, hb⟩ := moved_oks h
  have h1 := goneP_len (placeR p b m) (placeR p a m)
  have h2 := placeR_length hb
  unfold movedR
  rw [ha, hb]
  simp only [Bool.and_self, if_true]
  omega
theorem moved_self {p : Int} {a : List Int} {m : Int} (h : placeOk p a m = true) : movedR p a a m = 0 := by
  unfold movedR
  rw [h, goneP_self]; rfl
theorem moved_range (p : Int) (a b : List Int) (m : Int) : -1 ≤ movedR p a b m ∧ movedR p a b m ≤ 8 := by
  have h1 := goneP_len (placeR p b m) (placeR p a m)
  have h2 := placeR_len p b m
  unfold movedR
  split <;> omega

theorem filter_take_sub (x : Int) : ∀ (L : List Int) (m : Nat), L.Nodup → ((L.filter fun y => decide (y ≠ x)).take m).Sublist (L.take (m + 1))
  | [], m, _ => by simp
  | y :: L, m, h => by
    obtain ⟨h1, h2⟩ := List.nodup_cons.1 h
    by_cases e : y = x
    · subst e
      have hf : (L.filter fun z => decide (z ≠ y)) = L := by
        rw [List.filter_eq_self]
        intro z hz
        simp only [decide_eq_true_eq]
        exact fun e => h1 (e ▸ hz)
      have e2 : (y :: L).filter (fun z => decide (z ≠ y)) = L := by
        rw [List.filter_cons_of_neg (by simp), hf]
      rw [e2]
      exact List.Sublist.cons _ (List.Sublist.refl _)
    · rw [List.filter_cons_of_pos (by simpa using e)]
      cases m with
      | zero => simp
      | succ m => exact (filter_take_sub x L m h2).cons_cons y
theorem without_one {a : List Int} {k : Nat} (hn : a.Nodup) (hk : k < a.length) : a.take k ++ a.drop (k + 1) = a.filter fun y => decide (y ≠ a[k]) := by
  have e : a = a.take k ++ a[k] :: a.drop (k + 1) := by rw [← List.drop_eq_getElem_cons hk, List.take_append_drop]
  generalize a[k] = x at *
  have hn' := hn
  rw [e] at hn'
  obtain ⟨h1, h2, h3⟩ := List.nodup_append.1 hn'
  conv => rhs; rw [e]
  rw [List.filter_append, List.filter_cons_of_neg (by simp)]
  congr 1
  · symm
    rw [List.filter_eq_self]
    intro y hy
    simp only [decide_eq_true_eq]
    exact h3 y hy _ List.mem_cons_self
  · symm
    rw [List.filter_eq_self]
    intro y hy
    simp only [decide_eq_true_eq]
    exact fun e => (List.nodup_cons.1 h2).1 (e ▸ hy)
theorem moved_one {p : Int} {a : List Int} {m : Int} {k : Nat} (h : placeOk p a m = true) (hm : m ≠ a.length) (hk : k < a.length) : movedR p a (a.take k ++ a.drop (k + 1)) m = 0 ∨ movedR p a (a.take k ++ a.drop (k + 1)) m = 1 := by
  obtain ⟨hp, ⟨h8, hs⟩, h1, h2⟩ := placeOk_iff.1 h
  have hn := asc_nodup hs
  have e := without_one hn hk
  have hsub : (a.take k ++ a.drop (k + 1)).Sublist a := by rw [e]; exact List.filter_sublist
  have hlen : (a.take k ++ a.drop (k + 1)).length = a.length - 1 := by simp; omega
  have hok : placeOk p (a.take k ++ a.drop (k + 1)) m = true := placeOk_iff.2 ⟨hp, ⟨by omega, asc_of_sub hs hsub⟩, h1, by rw [hlen]; omega⟩
  have hle : (goneP (placeR p (a.take k ++ a.drop (k + 1)) m) (placeR p a m)).length ≤ 1 := by
    rw [placeR_yes hok, placeR_yes h]
    unfold placeP
    rw [e, rankP_filter p _ hn]
    generalize m.toNat = n
    refine Nat.le_trans (goneP_sub (filter_take_sub _ _ n (rankP_nodup hn))) ?_
    rw [List.take_add_one]
    have e2 : goneP ((rankP p a).take n ++ (rankP p a)[n]?.toList) ((rankP p a).take n) = goneP (rankP p a)[n]?.toList ((rankP p a).take n) := by
      have := goneP_self ((rankP p a).take n)
      unfold goneP at *
      rw [List.filter_append, this]; rfl
    rw [e2]
    refine Nat.le_trans (goneP_len _ _) ?_
    cases (rankP p a)[n]? <;> simp
  unfold movedR
  rw [h, hok]
  simp only [Bool.and_self, if_true]
  omega

end Go.Proofs.Ytebklbncfcdkmaa
