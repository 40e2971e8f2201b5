
/-
  Plain facts on texts that are read: cut at commas, numbers, updates, logs. No program, no statement.
-/
import Derived.Test.YtebklbncfcdkmaaDoorYA
import Derived.Lib.Split
import Derived.Lib.IndexLaws
namespace Go.Proofs.YtebklbncfcdkmaaDoor
open Go.RowKit

/-- A text, cut at its commas. -/
def cutL : List UInt8 → List (List UInt8)
  | [] => [[]]
  | c :: r => if c = 44 then [] :: cutL r else (c :: (cutL r).headD []) :: (cutL r).tail
theorem cutL_ne : ∀ s, cutL s ≠ []
  | [] => by simp [cutL]
  | c :: r => by unfold cutL; split <;> simp
theorem cutL_none : ∀ {p : List UInt8}, (∀ c ∈ p, c ≠ 44) → cutL p = [p]
  | [], _ => rfl
  | c :: p, h => by
    have ih := cutL_none (p := p) fun x hx => h x (by simp [hx])
    rw [cutL, if_neg (h c (by simp)), ih]; rfl
theorem cutL_app : ∀ {p : List UInt8}, (∀ c ∈ p, c ≠ 44) → ∀ r, cutL (p ++ 44 :: r) = p :: cutL r
  | [], _, r => by simp [cutL]
  | c :: p, h, r => by
    have ih := cutL_app (p := p) (fun x hx => h x (by simp [hx])) r
    rw [List.cons_append, cutL, if_neg (h c (by simp)), ih]; rfl
/-- Texts with commas between them. -/
def joinC : List (List UInt8) → List UInt8
  | [] => []
  | [p] => p
  | p :: q :: r => p ++ 44 :: joinC (q :: r)
theorem joinC_cons (p : List UInt8) {ps : List (List UInt8)} (h : ps ≠ []) : joinC (p :: ps) = p ++ 44 :: joinC ps := by
  cases ps with
  | nil => exact absurd rfl h
  | cons q r => rfl
theorem join_cut : ∀ s, joinC (cutL s) = s
  | [] => rfl
  | c :: r => by
    have ih := join_cut r
    have hne := cutL_ne r
    unfold cutL
    split
    · rename_i h
      rw [joinC_cons _ hne, ih, h]; rfl
    · match hc : cutL r, hne with
      | q :: t, _ =>
        rw [hc] at ih
        rw [← ih]
        cases t with
        | nil => simp [joinC]
        | cons a b => simp [joinC]
theorem cut_join : ∀ {ps : List (List UInt8)}, ps ≠ [] → (∀ p ∈ ps, ∀ c ∈ p, c ≠ 44) → cutL (joinC ps) = ps
  | [p], _, h => cutL_none (h p (by simp))
  | p :: q :: r, _, h => by
    have ih := cut_join (ps := q :: r) (by simp) fun x hx => h x (by simp [hx])
    rw [joinC_cons _ (by simp), cutL_app (h p (by simp)), ih]
theorem split_cut : ∀ (n : Nat) (s : List UInt8), s.length ≤ n → Lib.splitK [44] 0 (Lib.count s [44]) s = cutL s
  | n, s, hn => by
    rcases Lib.indexByte_ge s 44 |> fun h => (show Lib.indexByte s 44 = -1 ∨ ∃ i : Nat, Lib.indexByte s 44 = i from by
        by_cases e : Lib.indexByte s 44 = -1
        · exact .inl e
        · exact .inr ⟨(Lib.indexByte s 44).toNat, by omega⟩) with h | ⟨i, h⟩
    · have h1 : Lib.index s [44] = -1 := by rw [Lib.index_one]; exact h
      rw [Lib.count_miss h1, Lib.splitK, cutL_none]
      intro c hc e
      obtain ⟨k, hk, rfl⟩ := List.getElem_of_mem hc
      exact Lib.indexByte_none h k (by rw [List.getElem?_eq_getElem hk, e])
    · have h1 : Lib.index s [44] = i := by rw [Lib.index_one]; exact h
      obtain ⟨h2, h3⟩ := Lib.indexByte_some h
      have hil : i < s.length := by
        rcases Nat.lt_or_ge i s.length with h' | h'
        · exact h'
        · rw [List.getElem?_eq_none h'] at h2; cases h2
      have hs : s = s.take i ++ 44 :: s.drop (i + 1) := by
        rw [List.getElem?_eq_getElem hil] at h2
        have e : s.drop i = 44 :: s.drop (i + 1) := by
          rw [List.drop_eq_getElem_cons hil, Option.some.inj h2]
        rw [← e, List.take_append_drop]
      have hno : ∀ c ∈ s.take i, c ≠ 44 := by
        intro c hc e
        obtain ⟨k, hk, rfl⟩ := List.mem_take_iff_getElem.1 hc
        refine h3 k (by omega) ?_
        rw [List.getElem?_eq_getElem (by omega), e]
      have hm : ¬ (Lib.index s [44] == -1) = true := fun e => by have := beq_iff_eq.1 e; omega
      match n, hn with
      | 0, hn => omega
      | n + 1, hn =>
        have ih := split_cut n (s.drop (i + 1)) (by simp; omega)
        rw [Lib.count_hit (by simp) h1, Nat.add_comm, Lib.splitK, if_neg hm, h1]
        simp only [Int.toNat_natCast, Nat.add_zero, List.length_singleton]
        rw [ih]
        conv => rhs; rw [hs, cutL_app hno]

/-- Digits, behind a number. -/
def digsOf (acc : Nat) : List UInt8 → Option Nat
  | [] => some acc
  | c :: r => if 48 ≤ c.toNat ∧ c.toNat ≤ 57 then digsOf (10 * acc + (c.toNat - 48)) r else none
theorem digsOf_one (a d : Nat) (h : d < 10) (r : List UInt8) : digsOf a (UInt8.ofNat (48 + d) :: r) = digsOf (10 * a + d) r := by
  have e : (UInt8.ofNat (48 + d)).toNat = 48 + d := by rw [UInt8.toNat_ofNat']; omega
  rw [digsOf, e, if_pos (by omega), show 48 + d - 48 = d by omega]
theorem dec_one {n : Nat} (h : n < 10) : Lib.decDigits n = [UInt8.ofNat (48 + n)] := Lib.decDigits_one h
theorem dec_two {n : Nat} (h : 10 ≤ n) (h2 : n < 100) : Lib.decDigits n = [UInt8.ofNat (48 + n / 10), UInt8.ofNat (48 + n % 10)] := by
  rw [Lib.decDigits, dif_neg (by omega), dec_one (show n / 10 < 10 by omega)]; rfl
theorem digsOf_dec {n : Nat} (h : n < 100) : digsOf 0 (Lib.decDigits n) = some n := by
  by_cases h1 : n < 10
  · rw [dec_one h1, digsOf_one _ _ h1]; simp [digsOf]
  · rw [dec_two (by omega) h, digsOf_one _ _ (by omega), digsOf_one _ _ (by omega)]
    simp only [digsOf]
    congr 1
    omega
theorem dec_len {n : Nat} (h : n < 100) : 1 ≤ (Lib.decDigits n).length ∧ (Lib.decDigits n).length ≤ 2 := by
  by_cases h1 : n < 10
  · rw [dec_one h1]; simp
  · rw [dec_two (by omega) h]; simp
def orMinus : Option Nat → Int
  | some n => n
  | none => -1
/-- The number of a text of one or two digits, or -1. -/
def numL (l : List UInt8) : Int := if 1 ≤ l.length ∧ l.length ≤ 2 then orMinus (digsOf 0 l) else -1
theorem numL_dec {n : Nat} (h : n < 100) : numL (Lib.decDigits n) = n := by
  rw [numL, if_pos (dec_len h), digsOf_dec h]; rfl
/-- The update of a text, valid or not. -/
def fromL : List UInt8 → List UInt8 → Upd
  | _, [] => (-1, 0)
  | p, c :: r => if c = 61 then (numL p, numL r) else fromL (p ++ [c]) r
theorem fromL_none : ∀ (p l : List UInt8), (∀ c ∈ l, c ≠ 61) → fromL p l = (-1, 0)
  | _, [], _ => rfl
  | p, c :: r, h => by rw [fromL, if_neg (h c (by simp))]; exact fromL_none _ r fun x hx => h x (by simp [hx])
theorem fromL_app : ∀ (p l r : List UInt8), (∀ c ∈ l, c ≠ 61) → fromL p (l ++ 61 :: r) = (numL (p ++ l), numL r)
  | p, [], r, _ => by simp [fromL]
  | p, c :: l, r, h => by
    rw [List.cons_append, fromL, if_neg (h c (by simp)), fromL_app (p ++ [c]) l r fun x hx => h x (by simp [hx])]
    simp
theorem updOk_nat {u : Upd} (h : updOk u = true) : ∃ k v : Nat, u = (↑k, ↑v) ∧ k ≤ 4 ∧ v ≤ 99 := by
  obtain ⟨h1, h2, h3, h4⟩ := updOk_yes h
  exact ⟨u.1.toNat, u.2.toNat, Prod.ext (by simp; omega) (by simp; omega), by omega, by omega⟩
theorem from_updT {u : Upd} (h : updOk u = true) : fromL [] (updT u) = u := by
  obtain ⟨k, v, rfl, hk, hv⟩ := updOk_nat h
  have e : updT ((k : Int), (v : Int)) = Lib.decDigits k ++ 61 :: Lib.decDigits v := by simp [updT]
  rw [e, fromL_app _ _ _ fun c hc => dig_ne (dec_digs k c hc) 61 (by decide), List.nil_append, numL_dec (by omega), numL_dec (by omega)]
theorem updT_comma {u : Upd} : ∀ c ∈ updT u, c ≠ 44 := by
  intro c hc
  unfold updT at hc
  rcases List.mem_append.1 hc with hc | hc
  · rcases List.mem_append.1 hc with hc | hc
    · exact dig_ne (dec_digs _ c hc) 44 (by decide)
    · rw [List.mem_singleton] at hc; rw [hc]; decide
  · exact dig_ne (dec_digs _ c hc) 44 (by decide)
theorem joinT_joinC : ∀ (u : Upd) (r : List Upd), joinT (u :: r) (r.length + 1) = joinC ((u :: r).map updT)
  | u, [] => by simp [joinT, joinC]
  | u, v :: r => by
    show joinT (u :: v :: r) (r.length + 1 + 1) = joinC (updT u :: (v :: r).map updT)
    rw [joinT_cons u (v :: r) (r.length + 1) (by omega), joinT_joinC v r, joinC_cons (updT u) (ps := (v :: r).map updT) (by simp)]
    simp
theorem cut_joinT {us : List Upd} (h : us ≠ []) : cutL (joinT us us.length) = us.map updT := by
  cases us with
  | nil => exact absurd rfl h
  | cons u r =>
    rw [List.length_cons, joinT_joinC, cut_join (by simp)]
    intro p hp
    obtain ⟨x, _, rfl⟩ := List.mem_map.1 hp
    exact updT_comma
theorem updT_eq (u : Upd) : 61 ∈ updT u := by simp [updT]
theorem logT_some {us : List Upd} (h : us ≠ []) : logT us = joinT us us.length := by
  unfold logT; rw [if_neg (by simpa using h)]
theorem logT_nil : logT [] = [45] := rfl
theorem logT_hyphen {us : List Upd} (h : logT us = [45]) : us = [] := by
  by_cases hne : us = []
  · exact hne
  · exfalso
    rw [logT_some hne] at h
    have h1 := cut_joinT hne
    rw [h] at h1
    match us, hne, h1 with
    | u :: r, _, h1 =>
      have h2 := updT_eq u
      simp [cutL] at h1
      rw [← h1.1] at h2
      simp at h2
theorem cut_logT {us : List Upd} {s : List UInt8} (h : logT us = s) (hs : s ≠ [45]) : us ≠ [] ∧ cutL s = us.map updT := by
  have hne : us ≠ [] := fun e => hs (by rw [← h, e]; rfl)
  exact ⟨hne, by rw [← h, logT_some hne, cut_joinT hne]⟩
theorem map_from {us : List Upd} (h : logOk us = true) : (us.map updT).map (fromL []) = us := by
  rw [List.map_map]
  conv => rhs; rw [← List.map_id us]
  apply List.map_congr_left
  intro u hu
  obtain ⟨k, hk, rfl⟩ := List.getElem_of_mem hu
  exact from_updT ((logOk_all h).2 k hk)
theorem logT_inj {us vs : List Upd} (hu : logOk us = true) (hv : logOk vs = true) (h : logT us = logT vs) : us = vs := by
  by_cases e : logT vs = [45]
  · rw [logT_hyphen e, logT_hyphen (h.trans e)]
  · have h1 := (cut_logT h e).2
    have h2 := (cut_logT (rfl : logT vs = logT vs) e).2
    rw [← map_from hu, ← map_from hv, ← h1, ← h2]

/-- The log that a text is that of. -/
def IsLog (s : List UInt8) (us : List Upd) : Prop := logOk us = true ∧ logT us = s
theorem IsLog.eq {s : List UInt8} {us vs : List Upd} (h : IsLog s us) (h' : IsLog s vs) : us = vs := logT_inj h.1 h'.1 (h.2.trans h'.2.symm)
/-- The update that a text is that of. -/
def IsUpd (l : List UInt8) (u : Upd) : Prop := updOk u = true ∧ updT u = l
theorem isLog_of {s : List UInt8} {us : List Upd} (hs : s ≠ [45]) (h12 : us.length ≤ 12) (hl : us.length = (cutL s).length) (h : ∀ j, (hj : j < us.length) → IsUpd ((cutL s).getD j []) us[j]) : IsLog s us := by
  have hm : us.map updT = cutL s := by
    apply List.ext_getElem (by simpa using hl)
    intro j h1 h2
    rw [List.getElem_map, (h j (by simpa using h1)).2]
    simp [h2]
  have hne : us ≠ [] := fun e => by
    have := cutL_ne s
    rw [← hm, e] at this
    exact this rfl
  refine ⟨?_, ?_⟩
  · refine logOk_good h12 ?_
    rw [List.all_eq_true]
    intro u hu
    obtain ⟨k, hk, rfl⟩ := List.getElem_of_mem hu
    exact (h k hk).1
  · rw [logT_some hne]
    match us, hne, hm with
    | u :: r, _, hm => rw [List.length_cons, joinT_joinC, hm, join_cut]
theorem not_isLog {s : List UInt8} (hs : s ≠ [45]) {j : Nat} (hj : j < (cutL s).length) (h : (∀ u, ¬ IsUpd ((cutL s).getD j []) u) ∨ 12 ≤ j) : ∀ us, ¬ IsLog s us := by
  intro us hi
  obtain ⟨_, hc⟩ := cut_logT hi.2 hs
  have hlen : us.length = (cutL s).length := by rw [hc]; simp
  have h12 := (logOk_all hi.1).1
  rcases h with h | h
  · refine h (us[j]'(by omega)) ⟨(logOk_all hi.1).2 j (by omega), ?_⟩
    rw [hc]
    simp [show j < us.length by omega]
  · omega
/-- What the reference asks. -/
theorem isLog_spec {s : List UInt8} (hs : s ≠ [45]) (us : List Upd) : IsLog s us ↔ us = (cutL s).map (fromL []) ∧ logOk us = true ∧ logT us = s := by
  constructor
  · intro h
    refine ⟨?_, h.1, h.2⟩
    rw [(cut_logT h.2 hs).2, map_from h.1]
  · rintro ⟨_, h1, h2⟩; exact ⟨h1, h2⟩
theorem isLog_hyphen : IsLog [45] [] := ⟨rfl, rfl⟩

/-- What the program's updateFrom finds: a digit, '=', one digit or two. -/
theorem isUpd_of {k : Nat} {c0 : UInt8} {r : List UInt8} {v : Nat} (hk : c0.toNat = 48 + k) (hv : digsOf 0 r = some v) (ht : updText ((k : Int), (v : Int)) = c0 :: 61 :: r) : IsUpd (c0 :: 61 :: r) ((k : Int), (v : Int)) := by
  unfold updText at ht
  split at ht
  · rename_i h; exact ⟨h, ht⟩
  · cases ht
theorem isUpd_form {l : List UInt8} {u : Upd} (h : IsUpd l u) : ∃ (k v : Nat) (r : List UInt8), u = (↑k, ↑v) ∧ l = UInt8.ofNat (48 + k) :: 61 :: r ∧ k ≤ 4 ∧ v ≤ 99 ∧ r = Lib.decDigits v ∧ 1 ≤ r.length ∧ r.length ≤ 2 ∧ digsOf 0 r = some v := by
  obtain ⟨h1, h2⟩ := h
  obtain ⟨k, v, rfl, hk, hv⟩ := updOk_nat h1
  refine ⟨k, v, Lib.decDigits v, rfl, ?_, hk, hv, rfl, (dec_len (by omega)).1, (dec_len (by omega)).2, digsOf_dec (by omega)⟩
  rw [← h2]
  simp only [updT, Int.toNat_natCast, dec_one (show k < 10 by omega)]
  simp
end Go.Proofs.YtebklbncfcdkmaaDoor
