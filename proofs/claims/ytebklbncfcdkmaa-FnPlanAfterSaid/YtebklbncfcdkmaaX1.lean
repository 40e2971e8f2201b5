
/-
  Places of pieces, in plain lists: how much a piece wants a server, the servers in that order, and heaps of them. No statement is proved here.
-/
import Derived.Test.YtebklbncfcdkmaaK
namespace Go.Proofs.Ytebklbncfcdkmaa

def scoreP (p s : Int) : Int := ((131 * p + 17 * s + 7) * (131 * p + 17 * s + 7) + 3 * (131 * p + 17 * s + 7)) % 9973
/-- The piece p wants the server x more than y. -/
def bt (p x y : Int) : Prop := scoreP p y < scoreP p x ∨ (scoreP p x = scoreP p y ∧ x < y)
instance (p x y : Int) : Decidable (bt p x y) := by unfold bt; exact inferInstance

theorem bt_trans {p x y z : Int} (h : bt p x y) (k : bt p y z) : bt p x z := by unfold bt at *; omega
theorem bt_asymm {p x y : Int} (h : bt p x y) : ¬ bt p y x := by unfold bt at *; omega
theorem bt_irrefl {p x : Int} : ¬ bt p x x := by unfold bt; omega
theorem bt_total {p x y : Int} (h : x ≠ y) : bt p x y ∨ bt p y x := by unfold bt; omega
theorem bt_same {p x y : Int} (h : scoreP p x = scoreP p y) : bt p x y ↔ x < y := by unfold bt; omega
theorem bt_apart {p x y : Int} (h : scoreP p x ≠ scoreP p y) : bt p x y ↔ scoreP p y < scoreP p x := by unfold bt; omega
theorem nbt_trans {p x y z : Int} (h : ¬ bt p x y) (k : ¬ bt p y z) : ¬ bt p x z := by unfold bt at *; omega

def insP (p x : Int) : List Int → List Int
  | [] => [x]
  | y :: ys => if bt p x y then x :: y :: ys else y :: insP p x ys
/-- The servers, the one that the piece wants most first. -/
def rankP (p : Int) : List Int → List Int
  | [] => []
  | x :: xs => insP p x (rankP p xs)
theorem insP_perm (p x : Int) : ∀ l, (insP p x l).Perm (x :: l)
  | [] => .refl _
  | y :: ys => by
    unfold insP
    split
    · exact .refl _
    · exact ((insP_perm p x ys).cons y).trans (.swap x y ys)
theorem rankP_perm (p : Int) : ∀ l, (rankP p l).Perm l
  | [] => .refl _
  | x :: xs => (insP_perm p x _).trans ((rankP_perm p xs).cons x)
theorem insP_sorted (p x : Int) : ∀ l, l.Pairwise (bt p) → x ∉ l → (insP p x l).Pairwise (bt p)
  | [], _, _ => by simp [insP]
  | y :: ys, h, hx => by
    unfold insP
    obtain ⟨h1, h2⟩ := List.pairwise_cons.1 h
    split
    · rename_i c
      refine List.pairwise_cons.2 ⟨fun z hz => ?_, h⟩
      rcases List.mem_cons.1 hz with rfl | hz
      · exact c
      · exact bt_trans c (h1 z hz)
    · rename_i c
      refine List.pairwise_cons.2 ⟨fun z hz => ?_, insP_sorted p x ys h2 (fun e => hx (by simp [e]))⟩
      rcases List.mem_cons.1 ((insP_perm p x ys).mem_iff.1 hz) with rfl | hz
      · exact (bt_total (fun e => hx (by simp [e]))).resolve_left c
      · exact h1 z hz
theorem rankP_sorted (p : Int) : ∀ l : List Int, l.Nodup → (rankP p l).Pairwise (bt p)
  | [], _ => by simp [rankP]
  | x :: xs, h => by
    obtain ⟨h1, h2⟩ := List.nodup_cons.1 h
    exact insP_sorted p x _ (rankP_sorted p xs h2) (fun e => h1 ((rankP_perm p xs).mem_iff.1 e))
theorem rankP_nodup {p : Int} {l : List Int} (h : l.Nodup) : (rankP p l).Nodup := (rankP_perm p l).symm.nodup h
theorem rankP_mem {p x : Int} {l : List Int} : x ∈ rankP p l ↔ x ∈ l := (rankP_perm p l).mem_iff
theorem rankP_len (p : Int) (l : List Int) : (rankP p l).length = l.length := (rankP_perm p l).length_eq
theorem sorted_uniq {p : Int} : ∀ {l m : List Int}, l.Perm m → l.Pairwise (bt p) → m.Pairwise (bt p) → l = m
  | [], _, h, _, _ => h.nil_eq
  | x :: xs, [], h, _, _ => h.eq_nil
  | x :: xs, y :: ys, h, h1, h2 => by
    have e : x = y := by
      by_cases e : x = y
      · exact e
      · have a : x ∈ ys := by
          have := h.mem_iff.1 (List.mem_cons_self (a := x))
          simpa [e] using this
        have b : y ∈ xs := by
          have := h.mem_iff.2 (List.mem_cons_self (a := y))
          simpa [Ne.symm e] using this
        exact absurd ((List.pairwise_cons.1 h2).1 x a) (bt_asymm ((List.pairwise_cons.1 h1).1 y b))
    subst e
    rw [sorted_uniq (List.Perm.cons_inv h) (List.pairwise_cons.1 h1).2 (List.pairwise_cons.1 h2).2]
theorem rankP_filter (p : Int) (f : Int → Bool) {l : List Int} (h : l.Nodup) : rankP p (l.filter f) = (rankP p l).filter f :=
  sorted_uniq ((rankP_perm p _).trans ((rankP_perm p l).filter f).symm) (rankP_sorted p _ (h.filter f)) ((rankP_sorted p l h).filter f)

/-- The servers of a piece. -/
def placeP (p : Int) (servers : List Int) (m : Nat) : List Int := (rankP p servers).take m

/-- The next one to be taken is the best one of those that are left. -/
theorem rank_next {p : Int} {l : List Int} (hn : l.Nodup) {k : Nat} {y : Int} (hk : k < l.length) (hy : y ∈ (rankP p l).drop k) (hb : ∀ x ∈ (rankP p l).drop k, ¬ bt p x y) : (rankP p l)[k]? = some y := by
  have hl : k < (rankP p l).length := by rw [rankP_len]; exact hk
  have hs := (rankP_sorted p l hn).drop (i := k)
  rw [List.drop_eq_getElem_cons hl] at hs hy hb
  rw [List.getElem?_eq_getElem hl]
  rcases List.mem_cons.1 hy with e | e
  · rw [e]
  · exact absurd ((List.pairwise_cons.1 hs).1 y e) (hb _ List.mem_cons_self)

/-! ### Heaps -/
def hat (l : List Int) (i : Nat) : Int := l.getD i 0
def HeapN (p : Int) (l : List Int) (n : Nat) : Prop := ∀ i, 0 < i → i < n → ¬ bt p (hat l i) (hat l ((i - 1) / 2))
def swapL (l : List Int) (i j : Nat) : List Int := (l.set i (hat l j)).set j (hat l i)
theorem swapL_len (l : List Int) (i j : Nat) : (swapL l i j).length = l.length := by simp [swapL]
theorem hat_swap (l : List Int) {i j : Nat} (hi : i < l.length) (hj : j < l.length) (k : Nat) : hat (swapL l i j) k = if k = j then hat l i else if k = i then hat l j else hat l k := by
  unfold swapL
  by_cases e : k = j
  · subst e; rw [if_pos rfl]; conv => lhs; unfold hat
    simp [hj, hat]
  · rw [if_neg e]
    by_cases e2 : k = i
    · subst e2; rw [if_pos rfl]; conv => lhs; unfold hat
      simp [List.getD, Ne.symm e, hi, hat]
    · rw [if_neg e2]; unfold hat
      simp [List.getD, Ne.symm e, Ne.symm e2]
theorem swapL_perm (l : List Int) {i j : Nat} (hi : i < l.length) (hj : j < l.length) : (swapL l i j).Perm l := by
  have := List.set_set_perm hi hj
  simpa [swapL, hat, hi, hj] using this

def UpInv (p : Int) (l : List Int) (j : Nat) : Prop :=
  (∀ i, 0 < i → i < l.length → i ≠ j → ¬ bt p (hat l i) (hat l ((i - 1) / 2))) ∧
  (∀ i, 0 < i → i < l.length → (i - 1) / 2 = j → 0 < j → ¬ bt p (hat l i) (hat l ((j - 1) / 2)))
theorem up_start {p : Int} {l : List Int} (x : Int) (h : HeapN p l l.length) : UpInv p (l ++ [x]) l.length := by
  have e : ∀ i, i < l.length → hat (l ++ [x]) i = hat l i := fun i hi => by simp [hat, List.getD, List.getElem?_append_left, hi]
  refine ⟨fun i h0 h1 h2 => ?_, fun i h0 h1 h2 h3 => ?_⟩
  · simp at h1
    rw [e i (by omega), e _ (by omega)]
    exact h i h0 (by omega)
  · simp at h1; omega
theorem up_step {p : Int} {l : List Int} {j : Nat} (h : UpInv p l j) (hj : j < l.length) (h0 : 0 < j) (hb : bt p (hat l j) (hat l ((j - 1) / 2))) : UpInv p (swapL l ((j - 1) / 2) j) ((j - 1) / 2) := by
  obtain ⟨h1, h2⟩ := h
  generalize hq : (j - 1) / 2 = q at *
  have hqj : q < j := by omega
  have E := hat_swap l (i := q) (j := j) (by omega) hj
  refine ⟨fun i i0 il iq => ?_, fun i i0 il ip q0 => ?_⟩
  · rw [swapL_len] at il
    rw [E i, E ((i - 1) / 2)]
    by_cases e : i = j
    · subst e
      rw [if_pos rfl, hq, if_neg (by omega), if_pos rfl]
      exact bt_asymm hb
    · rw [if_neg e, if_neg iq]
      by_cases e2 : (i - 1) / 2 = j
      · rw [if_pos e2]
        exact h2 i i0 il e2 h0
      · rw [if_neg e2]
        by_cases e3 : (i - 1) / 2 = q
        · rw [if_pos e3]
          have := h1 i i0 il e
          rw [e3] at this
          exact fun hc => this (bt_trans hc hb)
        · rw [if_neg e3]
          exact h1 i i0 il e
  · rw [swapL_len] at il
    rw [E i, E ((q - 1) / 2), if_neg (show (q - 1) / 2 ≠ j by omega), if_neg (show (q - 1) / 2 ≠ q by omega)]
    have hqp := h1 q q0 (by omega) (by omega)
    by_cases e : i = j
    · subst e
      rw [if_pos rfl]
      exact hqp
    · rw [if_neg e, if_neg (show i ≠ q by omega)]
      have := h1 i i0 il e
      rw [ip] at this
      exact nbt_trans this hqp
theorem up_end {p : Int} {l : List Int} {j : Nat} (h : UpInv p l j) (he : j = 0 ∨ ¬ bt p (hat l j) (hat l ((j - 1) / 2))) : HeapN p l l.length := by
  intro i h0 h1
  by_cases e : i = j
  · subst e
    rcases he with he | he
    · omega
    · exact he
  · exact h.1 i h0 h1 e

def DownInv (p : Int) (l : List Int) (i n : Nat) : Prop :=
  (∀ k, 0 < k → k < n → (k - 1) / 2 ≠ i → ¬ bt p (hat l k) (hat l ((k - 1) / 2))) ∧
  (∀ k, 0 < k → k < n → (k - 1) / 2 = i → 0 < i → ¬ bt p (hat l k) (hat l ((i - 1) / 2)))
theorem down_start {p : Int} {l : List Int} {n : Nat} (h : HeapN p l l.length) (hn : l.length = n + 1) : DownInv p (swapL l 0 n) 0 n := by
  have E := hat_swap l (i := 0) (j := n) (by omega) (by omega)
  refine ⟨fun k k0 kn kp => ?_, fun k _ _ _ h0 => absurd h0 (by omega)⟩
  rw [E k, E ((k - 1) / 2), if_neg (by omega), if_neg (by omega), if_neg (by omega), if_neg kp]
  exact h k k0 (by omega)
/-- j is the better one of i's children. -/
def Child (p : Int) (l : List Int) (i n j : Nat) : Prop := j < n ∧ 0 < j ∧ (j - 1) / 2 = i ∧ ∀ k, 0 < k → k < n → (k - 1) / 2 = i → ¬ bt p (hat l k) (hat l j)
theorem down_step {p : Int} {l : List Int} {i j n : Nat} (h : DownInv p l i n) (hn : n ≤ l.length) (hc : Child p l i n j) (hb : bt p (hat l j) (hat l i)) : DownInv p (swapL l i j) j n := by
  obtain ⟨h1, h2⟩ := h
  obtain ⟨jn, j0, jp, hc⟩ := hc
  have E := hat_swap l (i := i) (j := j) (by omega) (by omega)
  refine ⟨fun k k0 kn kp => ?_, fun k k0 kn kp _ => ?_⟩
  · rw [E k, E ((k - 1) / 2), if_neg kp]
    by_cases e : (k - 1) / 2 = i
    · rw [if_pos e]
      by_cases e2 : k = j
      · rw [if_pos e2]; exact bt_asymm hb
      · rw [if_neg e2, if_neg (by omega)]
        exact hc k k0 kn e
    · rw [if_neg e, if_neg (show k ≠ j by intro e3; subst e3; exact e jp)]
      by_cases e2 : k = i
      · rw [if_pos e2, e2]
        exact h2 j j0 jn jp (by omega)
      · rw [if_neg e2]
        exact h1 k k0 kn e
  · rw [E k, E ((j - 1) / 2), if_neg (by omega), if_neg (by omega), jp, if_neg (by omega), if_pos rfl]
    have := h1 k k0 kn (by omega)
    rw [kp] at this
    exact this
theorem down_end {p : Int} {l : List Int} {i n : Nat} (h : DownInv p l i n) (he : n ≤ 2 * i + 1 ∨ ∃ j, Child p l i n j ∧ ¬ bt p (hat l j) (hat l i)) : HeapN p l n := by
  intro k h0 h1
  by_cases e : (k - 1) / 2 = i
  · rcases he with he | ⟨j, hc, hj⟩
    · omega
    · rw [e]
      exact nbt_trans (hc.2.2.2 k h0 h1 e) hj
  · exact h.1 k h0 h1 e
theorem heap_root {p : Int} {l : List Int} {n : Nat} (h : HeapN p l n) : ∀ m i, i ≤ m → i < n → ¬ bt p (hat l i) (hat l 0)
  | 0, i, h0, _ => by rw [show i = 0 by omega]; exact bt_irrefl
  | m + 1, i, h0, h1 => by
    by_cases e : i = 0
    · rw [e]; exact bt_irrefl
    · exact nbt_trans (h i (by omega) h1) (heap_root h m ((i - 1) / 2) (by omega) (by omega))
theorem heap_best {p : Int} {l : List Int} (h : HeapN p l l.length) : ∀ x ∈ l, ¬ bt p x (hat l 0) := by
  intro x hx
  obtain ⟨i, hi, rfl⟩ := List.getElem_of_mem hx
  have := heap_root h i i (Nat.le_refl _) hi
  simpa [hat, List.getD, hi] using this
theorem heap_take {p : Int} {l : List Int} {n : Nat} (hn : n ≤ l.length) (h : HeapN p l n) : HeapN p (l.take n) (l.take n).length := by
  have hl : (l.take n).length = n := by simp; omega
  rw [hl]
  have e : ∀ i, i < n → hat (l.take n) i = hat l i := fun i hi => by simp [hat, List.getD, hi]
  intro i h0 h1
  rw [e i h1, e _ (by omega)]
  exact h i h0 h1
theorem child_left {p : Int} {l : List Int} {i n : Nat} (h1 : 2 * i + 1 < n) (h : ¬ (2 * i + 2 < n ∧ bt p (hat l (2 * i + 2)) (hat l (2 * i + 1)))) : Child p l i n (2 * i + 1) := by
  refine ⟨h1, by omega, by omega, fun k k0 kn kp => ?_⟩
  rcases (show k = 2 * i + 1 ∨ k = 2 * i + 2 by omega) with rfl | rfl
  · exact bt_irrefl
  · exact fun hb => h ⟨kn, hb⟩
theorem child_right {p : Int} {l : List Int} {i n : Nat} (h1 : 2 * i + 2 < n) (h : bt p (hat l (2 * i + 2)) (hat l (2 * i + 1))) : Child p l i n (2 * i + 2) := by
  refine ⟨h1, by omega, by omega, fun k k0 kn kp => ?_⟩
  rcases (show k = 2 * i + 1 ∨ k = 2 * i + 2 by omega) with rfl | rfl
  · exact bt_asymm h
  · exact bt_irrefl
/-- What is taken out of a heap, and what is left. -/
theorem heap_popped {l m : List Int} {n : Nat} (hm : m.Perm (swapL l 0 n)) (hn : l.length = n + 1) (hl : hat m n = hat l 0) : (hat l 0 :: m.take n).Perm l := by
  have hml : m.length = n + 1 := by rw [hm.length_eq, swapL_len, hn]
  have e : m = m.take n ++ [hat m n] := by
    have h1 : n < m.length := by omega
    have h2 : m.drop n = [m[n]] := by rw [List.drop_eq_getElem_cons h1, List.drop_eq_nil_of_le (by omega)]
    conv => lhs; rw [← List.take_append_drop n m, h2]
    simp [hat, List.getD, h1]
  have h3 : (hat l 0 :: m.take n).Perm m := by
    conv => rhs; rw [e, hl]
    exact (List.perm_append_singleton _ _).symm
  exact (h3.trans hm).trans (swapL_perm l (by omega) (by omega))

end Go.Proofs.Ytebklbncfcdkmaa
