
/-
  A region that draws its order, whatever its operations do: if each operation, from what is known of the slots that it waits for, yields a value of which a stable fact holds, then behind the region all these facts hold. No statement is proved here.
-/
import Derived.WalkKit
namespace Go.Proofs.Ytgpnbcdboofikaa
namespace Free

section
variable (l : List Oper) (chain : List Nat) (S : Nat → Nat → Value → World → Prop) (a0 : Act)

/-- Operation i waits for operation j. -/
def after (i j : Nat) : Bool := match l[i]? with
  | some o => o.after.toList.any fun e => Region.binds .any e && e.on == j
  | none => false
def dstOf (j : Nat) : Option Tmp := (l[j]?).bind (·.dst)
/-- The operation that writes slot t. -/
def writer (t : Tmp) : Option Nat := (List.range l.length).find? fun j => dstOf l j == some t
/-- What is known of slot t when operation i comes up. -/
def Known (k : Nat) (a : Act) (w : World) (i : Nat) (t : Tmp) : Prop :=
  match writer l t with
  | none => a.eval (.tmp t) = a0.eval (.tmp t)
  | some j => if after l i j then S j k (a.eval (.tmp t)) w else if j == i || after l j i then a.eval (.tmp t) = a0.eval (.tmp t) else True

/-- Decided once a region: each operation waits for earlier ones alone, no slot is written twice, each slot is one of the frame's. -/
def okB (n : Nat) : Bool :=
  (List.range l.length).all fun i =>
    (match l[i]? with
     | some o => (o.after.all fun e => !Region.binds .any e || decide (e.on < i)) && (match o.dst with | some d => decide (d < n) | none => true)
     | none => true) &&
    (List.range l.length).all fun j => decide (i = j) || dstOf l i == none || dstOf l i != dstOf l j

/-- Decided once a region: each operation of the chain waits for the one before it. -/
def chainB : List Nat → Bool
  | [] => true
  | i :: r => decide (i < l.length) && !r.contains i && (match r with | [] => true | j :: _ => after l j i) && chainB r

structure Inv (I : Nat → Act → World → Prop) (listed : Array Bool) (a : Act) (w : World) : Prop where
  size : listed.size = l.length
  inv : ∃ k, k ≤ chain.length ∧ I k a w ∧ (∀ c i, chain[c]? = some i → listed.getD i false = decide (c < k)) ∧
    ∀ j, listed.getD j false = true → ∃ v, S j k v w ∧ ∀ t, dstOf l j = some t → a.eval (.tmp t) = v
  defers : a.defers = a0.defers
  tmps : a.tmps.size = a0.tmps.size
  closed : ∀ j k, listed.getD j false = true → after l j k = true → listed.getD k false = true
  old : ∀ t, (∀ j, dstOf l j = some t → listed.getD j false = false) → a.eval (.tmp t) = a0.eval (.tmp t)
end

theorem writer_none {l : List Oper} {t : Tmp} (h : writer l t = none) (j : Nat) : dstOf l j ≠ some t := by
  intro e
  unfold writer at h
  rw [List.find?_eq_none] at h
  have hj : j < l.length := by
    unfold dstOf at e
    cases hl : l[j]? with
    | none => rw [hl] at e; cases e
    | some o => exact (List.getElem?_eq_some_iff.1 hl).1
  have := h j (List.mem_range.2 hj)
  rw [e] at this
  simp at this
theorem writer_some {l : List Oper} {t : Tmp} {j : Nat} (h : writer l t = some j) : dstOf l j = some t := by
  unfold writer at h
  have := List.find?_some h
  simpa using this
theorem dst_lt {l : List Oper} {t : Tmp} {j : Nat} (e : dstOf l j = some t) : j < l.length := by
  unfold dstOf at e
  cases hl : l[j]? with
  | none => rw [hl] at e; cases e
  | some o => exact (List.getElem?_eq_some_iff.1 hl).1

theorem eval_put_other {a : Act} {d : Option Tmp} {t : Tmp} {v : Value} (h : d ≠ some t) : (a.put d v).eval (.tmp t) = a.eval (.tmp t) := by
  cases d with
  | none => rfl
  | some d =>
    have hne : d ≠ t := fun e => h (by rw [e])
    simp [Act.eval, Act.put, Array.getElem?_setIfInBounds_ne hne]
theorem eval_put_same {a : Act} {t : Tmp} {v : Value} (h : t < a.tmps.size) : (a.put (some t) v).eval (.tmp t) = v := by
  simp [Act.eval, Act.put, h]

section
variable {P : Program} {l : List Oper} {chain : List Nat} {S : Nat → Nat → Value → World → Prop} {a0 : Act} {I : Nat → Act → World → Prop} {R : Nat → World → World → Prop} {Q : Exit → Act → World → Prop}

theorem slot {a : Act} {t : Tmp} {v : Value} (h : a.eval (.tmp t) = v) : a.tmps[t]?.getD undef = v := by simpa [Act.eval] using h
theorem plain {ops : Array Oper} {o : Oper} {a : Act} {w : World} {K : Act → World → Prop} {E : Prop} (hg : o.guard = none) (h : o.wp P a w K Q) : if Region.wanted o (yielded ops a.tmps) = true then o.wp P a w K Q else E := by
  rw [if_pos (by simp [Region.wanted, hg])]; exact h

/-- What operation i owes: k operations of the chain have come up; it leaves n of them. -/
def Owes (P : Program) (l : List Oper) (S : Nat → Nat → Value → World → Prop) (a0 : Act) (I : Nat → Act → World → Prop) (R : Nat → World → World → Prop) (Q : Exit → Act → World → Prop) (i : Nat) (o : Oper) (k n : Nat) : Prop :=
  ∀ (a : Act) (w : World), I k a w → (∀ t, Known l S a0 k a w i t) → ∀ K : Act → World → Prop, (∀ v w', S i n v w' → I n (a.put o.dst v) w' → R i w w' → K (a.put o.dst v) w') →
    if Region.wanted o (yielded l.toArray a.tmps) = true then o.wp P a w K Q else K (a.put o.dst undef) w
/-- What is owed in all. -/
def OwesAll (P : Program) (l : List Oper) (chain : List Nat) (S : Nat → Nat → Value → World → Prop) (a0 : Act) (I : Nat → Act → World → Prop) (R : Nat → World → World → Prop) (Q : Exit → Act → World → Prop) : Prop :=
  ∀ i o, l[i]? = some o → (∀ c, chain[c]? = some i → Owes P l S a0 I R Q i o c (c + 1)) ∧
    (i ∉ chain → ∀ k, k ≤ chain.length → (∀ c j, chain[c]? = some j → (after l i j = true → c < k) ∧ (after l j i = true → k ≤ c)) → Owes P l S a0 I R Q i o k k)

/-- How many operations of the chain have surely come up when operation i comes up; how many may have. -/
def loFrom (l : List Oper) (i : Nat) : List Nat → Nat → Nat
  | [], _ => 0
  | j :: r, c => max (if after l i j then c + 1 else 0) (loFrom l i r (c + 1))
def hiFrom (l : List Oper) (i : Nat) : List Nat → Nat → Nat
  | [], c => c
  | j :: r, c => if after l j i then c else hiFrom l i r (c + 1)
theorem lo_le (l : List Oper) (i k : Nat) : ∀ (ch : List Nat) (c0 : Nat), (∀ c j, ch[c]? = some j → (after l i j = true → c0 + c < k)) → loFrom l i ch c0 ≤ k
  | [], _, _ => Nat.zero_le _
  | j :: r, c0, h => by
    unfold loFrom
    have h0 := h 0 j (by simp)
    have h1 := lo_le l i k r (c0 + 1) (fun c x hx ha => by have := h (c + 1) x (by simpa using hx) ha; omega)
    split
    · rename_i ha
      have := h0 ha
      omega
    · omega
theorem le_hi (l : List Oper) (i k : Nat) : ∀ (ch : List Nat) (c0 : Nat), k ≤ c0 + ch.length → (∀ c j, ch[c]? = some j → (after l j i = true → k ≤ c0 + c)) → k ≤ hiFrom l i ch c0
  | [], c0, hk, _ => by unfold hiFrom; simpa using hk
  | j :: r, c0, hk, h => by
    unfold hiFrom
    split
    · rename_i ha
      have := h 0 j (by simp) ha
      omega
    · exact le_hi l i k r (c0 + 1) (by simp at hk; omega) (fun c x hx ha => by have := h (c + 1) x (by simpa using hx) ha; omega)

/-- What is owed, operation by operation. -/
def Ob (P : Program) (l : List Oper) (chain : List Nat) (S : Nat → Nat → Value → World → Prop) (a0 : Act) (I : Nat → Act → World → Prop) (R : Nat → World → World → Prop) (Q : Exit → Act → World → Prop) (i : Nat) (o : Oper) : Prop :=
  match chain.idxOf? i with
  | some c => Owes P l S a0 I R Q i o c (c + 1)
  | none => ∀ k, loFrom l i chain 0 ≤ k → k ≤ hiFrom l i chain 0 → Owes P l S a0 I R Q i o k k
def Each (P : Program) (l : List Oper) (chain : List Nat) (S : Nat → Nat → Value → World → Prop) (a0 : Act) (I : Nat → Act → World → Prop) (R : Nat → World → World → Prop) (Q : Exit → Act → World → Prop) : List Oper → Nat → Prop
  | [], _ => True
  | [o], i => Ob P l chain S a0 I R Q i o
  | o :: r, i => Ob P l chain S a0 I R Q i o ∧ Each P l chain S a0 I R Q r (i + 1)
theorem each_at : ∀ (r : List Oper) (i : Nat), Each P l chain S a0 I R Q r i → ∀ j o, r[j]? = some o → Ob P l chain S a0 I R Q (i + j) o
  | [], _, _, _, _, h => by simp at h
  | [x], i, h, j, o, ho => by
    cases j with
    | zero => simp at ho; subst ho; exact h
    | succ j => simp at ho
  | x :: y :: r, i, h, j, o, ho => by
    cases j with
    | zero => simp at ho; subst ho; exact h.1
    | succ j =>
      have := each_at (y :: r) (i + 1) h.2 j o (by simpa using ho)
      rwa [show i + 1 + j = i + (j + 1) by omega] at this
theorem owes_each (h : Each P l chain S a0 I R Q l 0) (hu : ∀ (c d i : Nat), chain[c]? = some i → chain[d]? = some i → d = c) : OwesAll P l chain S a0 I R Q := by
  intro i o ho
  have hob := each_at l 0 h i o ho
  rw [Nat.zero_add] at hob
  unfold Ob at hob
  constructor
  · intro c hc
    have hm : i ∈ chain := List.mem_of_getElem? hc
    cases hx : chain.idxOf? i with
    | none =>
      exfalso
      have := List.idxOf?_eq_none_iff.1 hx
      exact this hm
    | some d =>
      rw [hx] at hob
      have hd : chain[d]? = some i := by
        rw [List.idxOf?_eq_some_iff] at hx
        obtain ⟨hlt, he, _⟩ := hx
        rw [List.getElem?_eq_getElem hlt, he]
      rw [hu c d i hc hd] at hob
      exact hob
  · intro hn k hk hc
    have hx : chain.idxOf? i = none := List.idxOf?_eq_none_iff.2 hn
    rw [hx] at hob
    exact hob k (lo_le l i k chain 0 (fun c j hj ha => by have := (hc c j hj).1 ha; omega)) (le_hi l i k chain 0 (by omega) (fun c j hj ha => by have := (hc c j hj).2 ha; omega))

theorem Inv.known {listed : Array Bool} {a : Act} {w : World} {n : Nat} (hok : okB l n = true) (h : Inv l chain S a0 I listed a w) {k : Nat} (hnew : ∀ j, listed.getD j false = true → ∃ v, S j k v w ∧ ∀ t, dstOf l j = some t → a.eval (.tmp t) = v) {i : Nat} (hi : i ∈ Region.ready .any l.toArray listed) (t : Tmp) : Known l S a0 k a w i t := by
  obtain ⟨hun, o, ho, hall⟩ := mem_ready.1 hi
  have hil : i < l.length := by simpa using (Array.getElem?_eq_some_iff.1 ho).1
  have hun' : listed.getD i false = false := by
    have : i < listed.size := by rw [h.size]; exact hil
    simp [Array.getD, this] at hun ⊢
    exact hun
  unfold Known
  split
  · rename_i hw
    exact h.old t (fun j hj => absurd hj (writer_none hw j))
  · rename_i j hw
    have hd := writer_some hw
    have uniq : ∀ k, dstOf l k = some t → k = j := fun k hk => by
      unfold okB at hok
      rw [List.all_eq_true] at hok
      have h1 := hok k (List.mem_range.2 (dst_lt hk))
      rw [Bool.and_eq_true, List.all_eq_true] at h1
      have h2 := h1.2 j (List.mem_range.2 (dst_lt hd))
      rw [hk, hd] at h2
      simpa using h2
    split
    · rename_i ha
      have hj : listed.getD j false = true := by
        unfold after at ha
        rw [show l[i]? = some o by simpa using ho] at ha
        simp only [List.any_eq_true] at ha
        obtain ⟨k, hk, hk2⟩ := ha
        simp only [Bool.and_eq_true, beq_iff_eq] at hk2
        rw [← hk2.2]
        exact hall _ (by simpa using hk) hk2.1
      obtain ⟨v, hv, hv2⟩ := hnew j hj
      rw [hv2 t hd]; exact hv
    · split
      · rename_i hc
        have hj : listed.getD j false = false := by
          simp only [Bool.or_eq_true, beq_iff_eq] at hc
          rcases hc with rfl | hc
          · exact hun'
          · cases hx : listed.getD j false with
            | false => rfl
            | true => rw [h.closed j i hx hc] at hun'; cases hun'
        exact h.old t (fun k hk => by rw [uniq k hk]; exact hj)
      · trivial

theorem Inv.step {listed : Array Bool} {a : Act} {w w' : World} (hok : okB l a0.tmps.size = true) (h : Inv l chain S a0 I listed a w) {k n : Nat} (hnew : ∀ j, listed.getD j false = true → ∃ v, S j k v w ∧ ∀ t, dstOf l j = some t → a.eval (.tmp t) = v) {i : Nat} (hi : i ∈ Region.ready .any l.toArray listed)
    {v : Value} (hv : S i n v w') (hI : n ≤ chain.length ∧ I n (a.put (dstOf l i) v) w' ∧ ∀ c j, chain[c]? = some j → (listed.setIfInBounds i true).getD j false = decide (c < n)) (hS : ∀ j v, i ≠ j → after l j i = false → S j k v w → S j n v w') : Inv l chain S a0 I (listed.setIfInBounds i true) (a.put (dstOf l i) v) w' := by
  obtain ⟨hun, o, ho, hall⟩ := mem_ready.1 hi
  have ho' : l[i]? = some o := by simpa using ho
  have hil : i < l.length := (List.getElem?_eq_some_iff.1 ho').1
  have hls : i < listed.size := by rw [h.size]; exact hil
  have get : ∀ j, (listed.setIfInBounds i true).getD j false = if i = j then true else listed.getD j false := fun j => by
    by_cases hij : i = j
    · subst hij; simp [hls]
    · simp [Array.getElem?_setIfInBounds_ne hij, hij]
  have hok' := hok
  unfold okB at hok'
  rw [List.all_eq_true] at hok'
  have hoki := hok' i (List.mem_range.2 hil)
  rw [Bool.and_eq_true, List.all_eq_true] at hoki
  have uniq : ∀ k t, dstOf l i = some t → dstOf l k = some t → k = i := fun k t ht hk => by
    have h2 := hoki.2 k (List.mem_range.2 (dst_lt hk))
    rw [hk, ht] at h2
    simp at h2
    exact h2.symm
  refine ⟨by simp [h.size], ⟨n, hI.1, hI.2.1, hI.2.2, ?_⟩, ?_, ?_, ?_, ?_⟩
  rotate_left
  · cases dstOf l i <;> exact h.defers
  · rw [← h.tmps]; cases dstOf l i <;> simp [Act.put]
  · intro j k hj hk
    rw [get] at hj ⊢
    split
    · rfl
    · by_cases hij : i = j
      · subst hij
        unfold after at hk
        rw [ho'] at hk
        simp only [List.any_eq_true] at hk
        obtain ⟨x, hx, hx2⟩ := hk
        simp only [Bool.and_eq_true, beq_iff_eq] at hx2
        rw [← hx2.2]
        exact hall _ (by simpa using hx) hx2.1
      · rw [if_neg hij] at hj
        exact h.closed j k hj hk
  · intro t ht
    have hne : dstOf l i ≠ some t := fun e => by have := ht i e; rw [get] at this; simp at this
    rw [eval_put_other hne]
    refine h.old t (fun j hj => ?_)
    have := ht j hj
    rw [get] at this
    split at this
    · cases this
    · exact this
  · intro j hj
    rw [get] at hj
    by_cases hij : i = j
    · subst hij
      refine ⟨v, hv, fun t ht => ?_⟩
      rw [ht]
      refine eval_put_same ?_
      rw [h.tmps]
      have h3 := hoki.1
      unfold dstOf at ht
      rw [ho'] at h3 ht
      simp only [Option.bind_some] at ht
      simp only [ht, Bool.and_eq_true, decide_eq_true_eq] at h3
      exact h3.2
    · rw [if_neg hij] at hj
      obtain ⟨u, hu, hu2⟩ := hnew j hj
      refine ⟨u, hS j u hij ?_ hu, fun t ht => ?_⟩
      · cases hx : after l j i with
        | false => rfl
        | true =>
          have h1 := h.closed j i hj hx
          have h2 : listed.getD i false = false := by
            simp [Array.getD, hls] at hun ⊢; exact hun
          rw [h2] at h1; cases h1
      rw [eval_put_other (fun e => hij (uniq j t e ht).symm)]
      exact hu2 t ht

/-- How many operations have not come up. -/
def left (n : Nat) (listed : Array Bool) : Nat := ((List.range n).filter fun j => !listed.getD j false).length

theorem left_set {n : Nat} {listed : Array Bool} {i : Nat} (hi : i < n) (hs : i < listed.size) (hun : listed.getD i false = false) : left n (listed.setIfInBounds i true) < left n listed := by
  unfold left
  have hsub : ((List.range n).filter fun j => !(listed.setIfInBounds i true).getD j false) = (((List.range n).filter fun j => !listed.getD j false).filter fun j => j != i) := by
    rw [List.filter_filter]
    apply List.filter_congr
    intro j _
    by_cases hij : i = j
    · subst hij; simp [hs]
    · simp [Array.getElem?_setIfInBounds_ne hij, Ne.symm hij]
  rw [hsub]
  have hmem : i ∈ (List.range n).filter fun j => !listed.getD j false := by
    rw [List.mem_filter]
    exact ⟨List.mem_range.2 hi, by rw [hun]; rfl⟩
  generalize (List.range n).filter (fun j => !listed.getD j false) = L at *
  clear hsub
  induction L with
  | nil => cases hmem
  | cons x L ih =>
    rw [List.filter_cons]
    by_cases hx : x = i
    · subst hx
      simp only [bne_self_eq_false, Bool.false_eq_true, if_false, List.length_cons]
      exact Nat.lt_succ_of_le (List.length_filter_le _ _)
    · rw [if_pos (by simpa using hx)]
      simp only [List.length_cons]
      rcases List.mem_cons.1 hmem with e | hm
      · exact absurd e.symm hx
      · exact Nat.succ_lt_succ (ih hm)

theorem chain_at {ch : List Nat} (h : chainB l ch = true) : ∀ c i, ch[c]? = some i → i < l.length ∧ (∀ d, ch[d]? = some i → d = c) ∧ (∀ j, ch[c + 1]? = some j → after l j i = true) := by
  induction ch with
  | nil => intro c i hc; simp at hc
  | cons x r ih =>
    unfold chainB at h
    simp only [Bool.and_eq_true, Bool.not_eq_true', decide_eq_true_eq] at h
    obtain ⟨⟨⟨h1, h2⟩, h3⟩, h4⟩ := h
    have h2' : x ∉ r := by simpa using h2
    intro c i hc
    cases c with
    | zero =>
      simp only [List.getElem?_cons_zero, Option.some.injEq] at hc
      subst hc
      refine ⟨h1, ?_, ?_⟩
      · intro d hd
        cases d with
        | zero => rfl
        | succ d => exact absurd (List.mem_of_getElem? (by simpa using hd)) h2'
      · intro j hj
        cases r with
        | nil => simp at hj
        | cons y r => simp at hj; subst hj; exact h3
    | succ c =>
      have hc' : r[c]? = some i := by simpa using hc
      obtain ⟨g1, g2, g3⟩ := ih h4 c i hc'
      refine ⟨g1, ?_, ?_⟩
      · intro d hd
        cases d with
        | zero =>
          simp only [List.getElem?_cons_zero, Option.some.injEq] at hd
          subst hd
          exact absurd (List.mem_of_getElem? hc') h2'
        | succ d => rw [g2 d (by simpa using hd)]
      · intro j hj
        exact g3 j (by simpa using hj)

theorem Inv.any (hok : okB l a0.tmps.size = true) (hch : chainB l chain = true) (hS : ∀ i j n n' v w w', (chain[n]? = some i ∧ n' = n + 1) ∨ (i ∉ chain ∧ n' = n) → i ≠ j → after l j i = false → R i w w' → S j n v w → S j n' v w') (hop : OwesAll P l chain S a0 I R Q)
    (hQ : ∀ a w, I chain.length a w → a.defers = a0.defers → a.tmps.size = a0.tmps.size → (∀ t, writer l t = none → a.eval (.tmp t) = a0.eval (.tmp t)) →
      (∀ j, j < l.length → ∃ v, S j chain.length v w ∧ ∀ t, dstOf l j = some t → a.eval (.tmp t) = v) → Q .normal a w) :
    ∀ (fuel : Nat) (listed : Array Bool) (a : Act) (w : World), left l.length listed ≤ fuel → Inv l chain S a0 I listed a w → wpAny P .any l.toArray Q fuel listed a w := by
  have fin : ∀ (listed : Array Bool) (a : Act) (w : World), Inv l chain S a0 I listed a w → Region.ready .any l.toArray listed = [] → Q .normal a w := by
    intro listed a w h hr
    have all : ∀ n j, j ≤ n → j < l.length → listed.getD j false = true := by
      intro n
      induction n with
      | zero =>
        intro j hj hl
        cases hx : listed.getD j false with
        | true => rfl
        | false =>
          exfalso
          have : j ∈ Region.ready .any l.toArray listed := by
            refine mem_ready.2 ⟨?_, l[j], by simp [hl], ?_⟩
            · have : j < listed.size := by rw [h.size]; exact hl
              simp [Array.getD, this] at hx ⊢; exact hx
            · intro e he hb
              unfold okB at hok
              rw [List.all_eq_true] at hok
              have h1 := hok j (List.mem_range.2 hl)
              rw [Bool.and_eq_true] at h1
              have h2 := h1.1
              rw [List.getElem?_eq_getElem hl] at h2
              simp only [Bool.and_eq_true, Array.all_eq_true_iff_forall_mem] at h2
              have h3 := h2.1 e he
              simp only [hb, Bool.not_true, Bool.false_or, decide_eq_true_eq] at h3
              omega
          rw [hr] at this; cases this
      | succ n ih =>
        intro j hj hl
        cases hx : listed.getD j false with
        | true => rfl
        | false =>
          exfalso
          have : j ∈ Region.ready .any l.toArray listed := by
            refine mem_ready.2 ⟨?_, l[j], by simp [hl], ?_⟩
            · have : j < listed.size := by rw [h.size]; exact hl
              simp [Array.getD, this] at hx ⊢; exact hx
            · intro e he hb
              unfold okB at hok
              rw [List.all_eq_true] at hok
              have h1 := hok j (List.mem_range.2 hl)
              rw [Bool.and_eq_true] at h1
              have h2 := h1.1
              rw [List.getElem?_eq_getElem hl] at h2
              simp only [Bool.and_eq_true, Array.all_eq_true_iff_forall_mem] at h2
              have h3 := h2.1 e he
              simp only [hb, Bool.not_true, Bool.false_or, decide_eq_true_eq] at h3
              exact ih e.on (by omega) (by omega)
          rw [hr] at this; cases this
    obtain ⟨k, hkl, hI, hk, hnew⟩ := h.inv
    have hkk : k = chain.length := by
      rcases Nat.lt_or_ge k chain.length with hlt | hge
      · have h1 := hk k chain[k] (by simp [hlt])
        have h2 := (chain_at hch k chain[k] (by simp [hlt])).1
        rw [all _ _ (Nat.le_refl _) h2] at h1
        simp at h1
      · omega
    have hI' : I chain.length a w := hkk ▸ hI
    refine hQ a w hI' h.defers h.tmps (fun t ht => h.old t (fun j hj => absurd hj (writer_none ht j))) (fun j hj => by rw [← hkk]; exact hnew j (all j j (Nat.le_refl _) hj))
  intro fuel
  induction fuel with
  | zero =>
    intro listed a w hf h
    have hr : Region.ready .any l.toArray listed = [] := by
      cases hx : Region.ready .any l.toArray listed with
      | nil => rfl
      | cons i r =>
        exfalso
        obtain ⟨hun, o, ho, _⟩ := mem_ready.1 (show i ∈ Region.ready .any l.toArray listed by rw [hx]; simp)
        have hil : i < l.length := by simpa using (Array.getElem?_eq_some_iff.1 ho).1
        have hls : i < listed.size := by rw [h.size]; exact hil
        have hun' : listed.getD i false = false := by simp [Array.getD, hls] at hun ⊢; exact hun
        have := left_set hil hls hun'
        omega
    exact ⟨hr, fin listed a w h hr⟩
  | succ fuel ih =>
    intro listed a w hf h
    refine ⟨fin listed a w h, fun i hi => ?_⟩
    obtain ⟨hun, o, ho, _⟩ := mem_ready.1 hi
    have ho' : l[i]? = some o := by simpa using ho
    have hil : i < l.length := (List.getElem?_eq_some_iff.1 ho').1
    have hls : i < listed.size := by rw [h.size]; exact hil
    have hun' : listed.getD i false = false := by simp [Array.getD, hls] at hun ⊢; exact hun
    have hlt := left_set hil hls hun'
    have hd : dstOf l i = o.dst := by simp [dstOf, ho']
    obtain ⟨k, hkl, hI, hk, hnew⟩ := h.inv
    have hset : ∀ j, (listed.setIfInBounds i true).getD j false = if i = j then true else listed.getD j false := fun j => by
      by_cases hij : i = j
      · subst hij; simp [hls]
      · simp [Array.getElem?_setIfInBounds_ne hij, hij]
    have waits : ∀ j, after l i j = true → listed.getD j false = true := fun j ha => by
      unfold after at ha
      rw [ho'] at ha
      simp only [List.any_eq_true] at ha
      obtain ⟨x, hx, hx2⟩ := ha
      simp only [Bool.and_eq_true, beq_iff_eq] at hx2
      obtain ⟨_, o2, ho2, hall2⟩ := mem_ready.1 hi
      rw [ho] at ho2
      cases ho2
      rw [← hx2.2]
      exact hall2 _ (by simpa using hx) hx2.1
    have key : ∃ n, n ≤ chain.length ∧ ((chain[k]? = some i ∧ n = k + 1) ∨ (i ∉ chain ∧ n = k)) ∧ Owes P l S a0 I R Q i o k n ∧ ∀ c j, chain[c]? = some j → (listed.setIfInBounds i true).getD j false = decide (c < n) := by
      by_cases hc : i ∈ chain
      · obtain ⟨c, hcl, hci⟩ := List.getElem_of_mem hc
        have hci' : chain[c]? = some i := by rw [List.getElem?_eq_getElem hcl, hci]
        have hat := chain_at hch c i hci'
        have hkc : k = c := by
          have h1 := hk c i hci'
          rw [hun'] at h1
          have h1' : ¬ c < k := by simpa using h1.symm
          rcases Nat.lt_or_ge k c with hlt | hge
          · exfalso
            have hk1 : k + 1 ≤ c := hlt
            obtain ⟨d, rfl⟩ : ∃ d, c = d + 1 := ⟨c - 1, by omega⟩
            have hdl : d < chain.length := by omega
            have hd2 := chain_at hch d chain[d] (by simp [hdl])
            have ha := hd2.2.2 i hci'
            have h3 := waits _ ha
            rw [hk d chain[d] (by simp [hdl])] at h3
            simp at h3
            omega
          · omega
        subst hkc
        refine ⟨k + 1, hcl, .inl ⟨hci', rfl⟩, (hop i o ho').1 k hci', fun d j hdj => ?_⟩
        rw [hset]
        by_cases hij : i = j
        · subst hij
          have := hat.2.1 d hdj
          simp [this]
        · rw [if_neg hij, hk d j hdj]
          have hne : d ≠ k := fun e => by subst e; rw [hci'] at hdj; cases hdj; exact hij rfl
          simp; omega
      · refine ⟨k, hkl, .inr ⟨hc, rfl⟩, (hop i o ho').2 hc k hkl (fun c j hcj => ⟨fun ha => ?_, fun ha => ?_⟩), fun d j hdj => ?_⟩
        · have := waits j ha
          rw [hk c j hcj] at this
          simpa using this
        · rcases Nat.lt_or_ge c k with hlt | hge
          · exfalso
            have h1 := hk c j hcj
            rw [decide_eq_true hlt] at h1
            have := h.closed j i h1 ha
            rw [this] at hun'; cases hun'
          · exact hge
        · rw [hset, if_neg (fun e => hc (by rw [e]; exact List.mem_of_getElem? hdj)), hk d j hdj]
    obtain ⟨n, hnl, hph, hw, hn⟩ := key
    unfold wpOp
    rw [ho]
    simp only
    have fin2 : ∀ v w', S i n v w' → I n (a.put o.dst v) w' → R i w w' → wpAny P .any l.toArray Q fuel (listed.setIfInBounds i true) (a.put o.dst v) w' := fun v w' hv hI2 hR => by
      rw [← hd]
      exact ih _ _ _ (by omega) (h.step hok hnew hi hv ⟨hnl, by rw [hd]; exact hI2, hn⟩ (fun j v h1 h2 => hS i j k n v _ _ hph h1 h2 hR))
    have := hw a w hI (h.known hok hnew hi) _ fin2
    split
    · rename_i hwt
      rw [if_pos hwt] at this
      exact .inl this
    · rename_i hwt
      rw [if_neg hwt] at this
      exact this

/-- **Whatever order the region draws.** -/
theorem wp_region {id : Nat} {w0 : World} (chain : List Nat) (I : Nat → Act → World → Prop) (R : Nat → World → World → Prop) (S : Nat → Nat → Value → World → Prop) (hm : P.follows .mixedOrders = true) (hok : okB l a0.tmps.size = true) (hch : chainB l chain = true)
    (hS : ∀ i j n n' v w w', (chain[n]? = some i ∧ n' = n + 1) ∨ (i ∉ chain ∧ n' = n) → i ≠ j → after l j i = false → R i w w' → S j n v w → S j n' v w') (h0 : I 0 a0 w0.drew) (hop : OwesAll P l chain S a0 I R Q)
    (hQ : ∀ a w, I chain.length a w → a.defers = a0.defers → a.tmps.size = a0.tmps.size → (∀ t, writer l t = none → a.eval (.tmp t) = a0.eval (.tmp t)) →
      (∀ j, j < l.length → ∃ v, S j chain.length v w ∧ ∀ t, dstOf l j = some t → a.eval (.tmp t) = v) → Q .normal a w) : (Code.region id l.toArray true).wp P Q a0 w0 := by
  refine wp_region_any hm (Inv.any hok hch hS hop hQ _ _ _ _ ?_ ?_)
  · have : left l.length (Array.replicate l.toArray.size false) ≤ l.length := by
      unfold left
      exact Nat.le_trans (List.length_filter_le _ _) (by simp)
    simpa using this
  · have hf : ∀ j, (Array.replicate l.toArray.size false).getD j false = false := fun j => by
      by_cases hj : j < l.length <;> simp [hj]
    exact ⟨by simp, ⟨0, Nat.zero_le _, h0, fun c i _ => by rw [hf]; simp, fun j hj => (by rw [hf] at hj; cases hj)⟩, rfl, rfl, fun j k hj => (by rw [hf] at hj; cases hj), fun t _ => rfl⟩

/-- The values of all operations, put into the frame. -/
def puts : List Oper → (Nat → Value) → Nat → Act → Act
  | [], _, _, a => a
  | o :: r, vs, k, a => puts r vs (k + 1) (a.put o.dst (vs k))

theorem puts_size (vs : Nat → Value) : ∀ (l : List Oper) (k : Nat) (a : Act), (puts l vs k a).tmps.size = a.tmps.size
  | [], _, _ => rfl
  | o :: r, k, a => by
    rw [puts, puts_size vs r]
    cases o.dst <;> simp [Act.put]
theorem puts_defers (vs : Nat → Value) : ∀ (l : List Oper) (k : Nat) (a : Act), (puts l vs k a).defers = a.defers
  | [], _, _ => rfl
  | o :: r, k, a => by
    rw [puts, puts_defers vs r]
    cases o.dst <;> rfl
theorem puts_other (vs : Nat → Value) (t : Tmp) : ∀ (l : List Oper) (k : Nat) (a : Act), (∀ j, dstOf l j ≠ some t) → (puts l vs k a).eval (.tmp t) = a.eval (.tmp t)
  | [], _, _, _ => rfl
  | o :: r, k, a, h => by
    rw [puts, puts_other vs t r _ _ (fun j => by have := h (j + 1); simpa [dstOf] using this)]
    exact eval_put_other (by have := h 0; simpa [dstOf] using this)
theorem puts_same (vs : Nat → Value) (t : Tmp) : ∀ (l : List Oper) (k : Nat) (a : Act) (j : Nat), (∀ i j, dstOf l i = some t → dstOf l j = some t → i = j) → t < a.tmps.size → dstOf l j = some t → (puts l vs k a).eval (.tmp t) = vs (k + j)
  | [], _, _, _, _, _, h => by simp [dstOf] at h
  | o :: r, k, a, 0, hu, ht, h => by
    have hd : o.dst = some t := by simpa [dstOf] using h
    rw [puts, puts_other vs t r _ _ (fun j e => by
      have := hu 0 (j + 1) h (by simpa [dstOf] using e)
      omega)]
    rw [hd]
    exact eval_put_same ht
  | o :: r, k, a, j + 1, hu, ht, h => by
    rw [puts, puts_same vs t r (k + 1) _ j (fun i i' e e' => by
      have := hu (i + 1) (i' + 1) (by simpa [dstOf] using e) (by simpa [dstOf] using e')
      omega) (by cases o.dst <;> simp [Act.put, ht]) (by simpa [dstOf] using h)]
    rw [show k + 1 + j = k + (j + 1) by omega]

theorem act_ext {a b : Act} (hd : a.defers = b.defers) (hs : a.tmps.size = b.tmps.size) (h : ∀ t, a.eval (.tmp t) = b.eval (.tmp t)) : a = b := by
  obtain ⟨x, d⟩ := a
  obtain ⟨y, d'⟩ := b
  simp only at hd hs
  subst hd
  congr 1
  apply Array.ext hs
  intro i h1 h2
  have := h i
  simpa [Act.eval, h1, h2] using this

/-- **Whatever order the region draws; the frame written out.** -/
theorem wp_region_puts {id : Nat} {w0 : World} (chain : List Nat) (I : Nat → Act → World → Prop) (R : Nat → World → World → Prop) (S : Nat → Nat → Value → World → Prop) (hm : P.follows .mixedOrders = true) (hok : okB l a0.tmps.size = true) (hch : chainB l chain = true)
    (hS : ∀ i j n n' v w w', (chain[n]? = some i ∧ n' = n + 1) ∨ (i ∉ chain ∧ n' = n) → i ≠ j → after l j i = false → R i w w' → S j n v w → S j n' v w') (h0 : I 0 a0 w0.drew) (hop : Each P l chain S a0 I R Q l 0)
    (hQ : ∀ vs w, I chain.length (puts l vs 0 a0) w → (∀ j t, dstOf l j = some t → (puts l vs 0 a0).eval (.tmp t) = vs j) → (∀ j, j < l.length → S j chain.length (vs j) w) → Q .normal (puts l vs 0 a0) w) : (Code.region id l.toArray true).wp P Q a0 w0 := by
  refine wp_region chain I R S hm hok hch hS h0 (owes_each hop (fun c d i hc hd => (chain_at hch c i hc).2.1 d hd)) ?_
  intro a w hI hd hs hold hnew
  have hnew' : ∀ j, ∃ v, j < l.length → S j chain.length v w ∧ ∀ t, dstOf l j = some t → a.eval (.tmp t) = v := fun j => by
    by_cases hj : j < l.length
    · obtain ⟨v, hv⟩ := hnew j hj
      exact ⟨v, fun _ => hv⟩
    · exact ⟨undef, fun h => absurd h hj⟩
  obtain ⟨vs, hvs⟩ := Classical.axiomOfChoice hnew'
  have hok' := hok
  unfold okB at hok'
  rw [List.all_eq_true] at hok'
  have uniq : ∀ t i j, dstOf l i = some t → dstOf l j = some t → i = j := fun t i j hi hj => by
    have h1 := hok' i (List.mem_range.2 (dst_lt hi))
    rw [Bool.and_eq_true, List.all_eq_true] at h1
    have h2 := h1.2 j (List.mem_range.2 (dst_lt hj))
    rw [hi, hj] at h2
    simpa using h2
  have e : a = puts l vs 0 a0 := by
    refine act_ext (by rw [puts_defers, hd]) (by rw [puts_size, hs]) (fun t => ?_)
    cases hw : writer l t with
    | none => rw [hold t hw, puts_other vs t l 0 a0 (writer_none hw)]
    | some j =>
      have hdj := writer_some hw
      have hlt := dst_lt hdj
      rw [(hvs j hlt).2 t hdj, puts_same vs t l 0 a0 j (uniq t) ?_ hdj, Nat.zero_add]
      have h1 := hok' j (List.mem_range.2 hlt)
      rw [Bool.and_eq_true] at h1
      have h3 := h1.1
      unfold dstOf at hdj
      rw [List.getElem?_eq_getElem hlt] at h3 hdj
      simp only [Option.bind_some] at hdj
      simp only [hdj, Bool.and_eq_true, decide_eq_true_eq] at h3
      exact h3.2
  have hp : ∀ j t, dstOf l j = some t → (puts l vs 0 a0).eval (.tmp t) = vs j := fun j t hd => by
    rw [← e]
    exact (hvs j (dst_lt hd)).2 t hd
  rw [e] at hI ⊢
  exact hQ vs w hI hp (fun j hj => (hvs j hj).1)
end
end Free
end Go.Proofs.Ytgpnbcdboofikaa
