
/-
  A region that draws its order: what only reads is taken first, in the text's order; what writes or makes memory comes up alone. No program, no statement.
-/
import Derived.Test.YtebklbncfcdkmaaDoorGw
import Derived.OrdersHeld
namespace Go.Proofs.YtebklbncfcdkmaaDoor
open Go.RowKit
namespace Mix

/-- A world of which S holds. -/
structure Held (S : World → Prop) where
  out : World
  ok : S out
theorem named (S0 : World → Prop) : ∃ S : World → Prop, ∀ w, S w ↔ S0 w := ⟨S0, fun _ => Iff.rfl⟩
def held {S : World → Prop} (x : Held S) : World := x.out
theorem held_cell {S : World → Prop} {p : Addr} {v : Value} (h : ∀ w, S w → w.cell? p = some v) (x : Held S) : (held x).cell? p = some v := h _ x.ok

section
variable {P : Program} {ops : Array Oper} {Q : Exit → Act → World → Prop} {S : World → Prop} {last : Nat}

/-- Whatever order is picked from here on, and S holds behind each operation but the last one. -/
def wpE (P : Program) (ops : Array Oper) (Q : Exit → Act → World → Prop) (S : World → Prop) (last : Nat) : Nat → Array Bool → Act → World → Prop
  | 0, listed, a, w => Region.ready .any ops listed = [] ∧ Q .normal a w
  | fuel + 1, listed, a, w =>
    (Region.ready .any ops listed = [] → Q .normal a w) ∧
    ∀ i ∈ Region.ready .any ops listed, wpOp P ops Q i (fun a' w' => (i = last ∨ S w') ∧ wpE P ops Q S last fuel (listed.setIfInBounds i true) a' w') a w

theorem wpE_any : ∀ (fuel : Nat) (listed : Array Bool) (a : Act) (w : World), wpE P ops Q S last fuel listed a w → wpAny P .any ops Q fuel listed a w
  | 0, _, _, _, h => h
  | fuel + 1, _, _, _, h => ⟨h.1, fun i hi => wpOp_mono (fun a' w' h' => wpE_any fuel _ a' w' h'.2) (h.2 i hi)⟩

/-- One operation waits for another, or for one that does. -/
def needs (ops : Array Oper) : Nat → Nat → Nat → Bool
  | 0, _, _ => false
  | f + 1, j, i => match ops[j]? with
    | some o => o.after.any fun e => Region.binds .any e && (e.on == i || needs ops f e.on i)
    | none => false
def waitsB (ops : Array Oper) (last i : Nat) : Bool := decide (i ≠ last) && (decide (ops.size ≤ last) || needs ops 16 last i)
/-- With an operation, those that it waits for have come up. -/
def Closed (ops : Array Oper) (listed : Array Bool) : Prop := ∀ (j : Nat) (o : Oper), ops[j]? = some o → listed.getD j false = true → ∀ e ∈ o.after, Region.binds .any e = true → listed.getD e.on false = true
def closedB (ops : Array Oper) (listed : Array Bool) : Bool := (List.range ops.size).all fun j => !listed.getD j false || match ops[j]? with
  | some o => o.after.all fun e => !Region.binds .any e || listed.getD e.on false
  | none => true
theorem closed_of {listed : Array Bool} (h : closedB ops listed = true) : Closed ops listed := by
  intro j o ho hl e he hb
  unfold closedB at h
  rw [List.all_eq_true] at h
  have h1 := h j (List.mem_range.2 (Array.getElem?_eq_some_iff.1 ho).1)
  rw [hl, ho] at h1
  simp only [Bool.not_true, Bool.false_or, Array.all_eq_true_iff_forall_mem] at h1
  have h2 := h1 e he
  rw [hb] at h2
  simpa using h2
theorem Closed.set {listed : Array Bool} {j : Nat} (h : Closed ops listed) (hj : j ∈ Region.ready .any ops listed) : Closed ops (listed.setIfInBounds j true) := by
  obtain ⟨_, oj, hoj, hall⟩ := mem_ready.1 hj
  intro k o ho hl e he hb
  by_cases hjk : j = k
  · subst hjk
    rw [hoj] at ho
    cases ho
    exact getD_set_true (hall e he hb)
  · rw [getD_set_ne false hjk] at hl
    exact getD_set_true (h k o ho hl e he hb)
theorem needs_not {listed : Array Bool} {i : Nat} (hc : Closed ops listed) (hi : listed.getD i false = false) : ∀ (f j : Nat), needs ops f j i = true → listed.getD j false = false ∧ j ∉ Region.ready .any ops listed
  | 0, _, h => by cases h
  | f + 1, j, h => by
    unfold needs at h
    cases ho : ops[j]? with
    | none => rw [ho] at h; cases h
    | some o =>
      rw [ho] at h
      obtain ⟨e, he, hb⟩ := Array.any_eq_true'.1 h
      simp only [Bool.and_eq_true, Bool.or_eq_true, beq_iff_eq] at hb
      have hon : listed.getD e.on false = false := by
        rcases hb.2 with h1 | h1
        · rw [h1]; exact hi
        · exact (needs_not hc hi f e.on h1).1
      refine ⟨?_, fun hr => ?_⟩
      · cases hx : listed.getD j false with
        | false => rfl
        | true =>
          have := hc j o ho hx e he hb.1
          rw [hon] at this; cases this
      · obtain ⟨_, o', ho', hall⟩ := mem_ready.1 hr
        rw [ho] at ho'
        cases ho'
        have := hall e he hb.1
        rw [hon] at this; cases this
theorem last_waits {listed : Array Bool} {i : Nat} (hc : Closed ops listed) (hw : waitsB ops last i = true) (hi : listed.getD i false = false) : last ∉ Region.ready .any ops listed := by
  unfold waitsB at hw
  rw [Bool.and_eq_true, Bool.or_eq_true, decide_eq_true_eq, decide_eq_true_eq] at hw
  rcases hw.2 with h | h
  · intro hl
    obtain ⟨_, o, ho, _⟩ := mem_ready.1 hl
    have := (Array.getElem?_eq_some_iff.1 ho).1
    omega
  · exact (needs_not hc hi 16 last h).2

theorem first {i : Nat} {oi : Oper} {v : Value} (hi : ops[i]? = some oi) (hsel : ∀ (j : Nat) (o : Oper) cs b, ops[j]? = some o → o.op ≠ .select cs b) (hlast : waitsB ops last i = true)
    (hQ : ∀ c a w, Q (.panic c) (a.put oi.dst v) w → Q (.panic c) a w) :
    ∀ (fuel : Nat) (listed : Array Bool) (a : Act) (w : World), Closed ops listed →
      (∀ j oj, ops[j]? = some oj → j ≠ i → listed.getD j true = false → (∀ e ∈ oj.after, Region.binds .any e = true → e.on ≠ i) → oi.apart ops oj = true) →
      i ∈ Region.ready .any ops listed → YieldsIf P ops S oi v a → S w →
      wpE P ops Q S last fuel (listed.setIfInBounds i true) (a.put oi.dst v) w → wpE P ops Q S last (fuel + 1) listed a w := by
  have hil : i ≠ last := by
    unfold waitsB at hlast
    rw [Bool.and_eq_true, decide_eq_true_eq] at hlast
    exact hlast.1
  intro fuel
  induction fuel with
  | zero =>
    intro listed a w _ _ hr hy hS H
    refine ⟨fun h => (by rw [h] at hr; cases hr), fun j hj => ?_⟩
    by_cases hji : j = i
    · subst hji; exact hy.wpOp hi hS ⟨.inr hS, H⟩
    · have := ready_mono hj hji
      rw [H.1] at this
      cases this
  | succ fuel ih =>
    intro listed a w hcl hfree hr hy hS H
    refine ⟨fun h => (by rw [h] at hr; cases hr), fun j hj => ?_⟩
    by_cases hji : j = i
    · subst hji; exact hy.wpOp hi hS ⟨.inr hS, H⟩
    · have hun : listed.getD i false = false := by
        have h0 := (mem_ready.1 hr).1
        rcases Nat.lt_or_ge i listed.size with h' | h'
        · simp [h'] at h0 ⊢; exact h0
        · simp [Array.getElem?_eq_none h'] at h0
      have hjl : j ≠ last := fun e => last_waits hcl hlast hun (e ▸ hj)
      have h1 := H.2 j (ready_mono hj hji)
      obtain ⟨hjun, oj, hoj, hall⟩ := mem_ready.1 hj
      have hnot : ∀ e ∈ oj.after, Region.binds .any e = true → e.on ≠ i := fun e he hb heq => by
        have h1 := hall e he hb
        rw [heq, hun] at h1
        cases h1
      have h2 := wpOp_putIf hoj (hfree j oj hoj hji hjun hnot) (fun cs b => hsel i oi cs b hi) (fun cs b => hsel j oj cs b hoj) hQ hy h1
      have hfree' : ∀ k ok, ops[k]? = some ok → k ≠ i → (listed.setIfInBounds j true).getD k true = false →
          (∀ e ∈ ok.after, Region.binds .any e = true → e.on ≠ i) → oi.apart ops ok = true := fun k ok hk hki hun hno => by
        refine hfree k ok hk hki ?_ hno
        by_cases hjk : j = k
        · subst hjk; exact hjun
        · rw [getD_set_ne true hjk] at hun; exact hun
      refine wpOp_mono (fun a' w' h3 => ?_) h2
      have hSw : S w' := h3.2.1.resolve_left hjl
      refine ⟨.inr hSw, ih (listed.setIfInBounds j true) a' w' (hcl.set hj) hfree' (ready_mono hr (Ne.symm hji)) h3.1 hSw ?_⟩
      rw [Array.setIfInBounds_comm _ _ hji]
      exact h3.2.2

/-- These operations may be taken first, one behind the other. -/
def takeB (ops : Array Oper) (last : Nat) : List Nat → Array Bool → Bool
  | [], _ => true
  | i :: r, listed => waitsB ops last i && (Region.ready .any ops listed).contains i && Region.free .any ops listed i && takeB ops last r (listed.setIfInBounds i true)
def listAll (listed : Array Bool) : List Nat → Array Bool
  | [] => listed
  | i :: r => listAll (listed.setIfInBounds i true) r
/-- The operations with these numbers. -/
def pickOps (ops : Array Oper) (is : List Nat) : List Oper := is.filterMap fun i => ops[i]?

/-- Operations that yield a value and neither store nor call. -/
def reads (o : Oper) : Bool := match o.op with
  | .move _ | .assign _ | .pick .. | .load .. | .fieldAddr .. | .field .. | .indexAddr .. | .index .. | .slice .. | .binOp .. | .unOp .. | .build .. | .extract .. | .convert .. | .nilCheck _ => true
  | .call c => match c.callee with
    | .builtin .len => true
    | _ => false
  | _ => false

theorem val_of {s : Sem Value} {w w' : World} {n : Next} (h : (do pure (Next.value (← s)) : Sem Next).run P w = .ok n w') : ∃ x, n = .value x := by
  simp only [Sem.run_bind, Sem.run_pure] at h
  generalize s.run P w = r at h
  cases r with
  | ok x w1 => simp only [Result.andThen_ok] at h; cases h; exact ⟨x, rfl⟩
  | halt y w1 => simp [Result.andThen] at h

theorem reads_value {ρ : Operand → Value} {o : Oper} {w w' : World} {n : Next} (hr : reads o = true) (h : (execOp ρ o).run P w = .ok n w') : ∃ x, n = .value x := by
  obtain ⟨dst, op, type, pos, after, guard⟩ := o
  cases op with
  | move x => simp only [execOp, Sem.run_pure] at h; cases h; exact ⟨_, rfl⟩
  | assign x => simp only [execOp, Sem.run_pure] at h; cases h; exact ⟨_, rfl⟩
  | pick c x y =>
    simp only [execOp, Sem.run_bind, Sem.run_pure] at h
    generalize (asBool (ρ c)).run P w = r at h
    cases r with
    | ok x w1 => simp only [Result.andThen_ok] at h; cases h; exact ⟨_, rfl⟩
    | halt y w1 => simp [Result.andThen] at h
  | nilCheck x =>
    simp only [execOp] at h
    generalize ρ x = y at h
    have pv : ∀ z : Value, (pure (Next.value z) : Sem Next).run P w = .ok n w' → ∃ x, n = .value x := fun z h => by
      simp only [Sem.run_pure] at h; cases h; exact ⟨_, rfl⟩
    split at h
    · simp [runtimePanic, Sem.run_bind] at h
    · simp [runtimePanic, Sem.run_bind] at h
    · simp [runtimePanic, Sem.run_bind] at h
    · split at h
      · simp [runtimePanic, Sem.run_bind] at h
      · simp only [Sem.run_bind] at h
        generalize Sem.run P program w = r at h
        cases r with
        | halt y w1 => simp [Result.andThen] at h
        | ok x w1 =>
          simp only [Result.andThen_ok] at h
          generalize Sem.run P (nilAhead _ _ _ _) w1 = r at h
          cases r with
          | halt y w2 => simp [Result.andThen] at h
          | ok y w2 =>
            simp only [Result.andThen_ok] at h
            split at h
            · simp only [Sem.run_bind] at h
              generalize Sem.run P (unsupported _) w2 = r at h
              cases r with
              | halt y w3 => simp [Result.andThen] at h
              | ok z w3 => simp only [Result.andThen_ok, Sem.run_pure] at h; cases h; exact ⟨_, rfl⟩
            · simp only [Sem.run_pure] at h; cases h; exact ⟨_, rfl⟩
      · exact pv _ h
    · exact pv _ h
  | load t x => exact val_of h
  | fieldAddr t x k => exact val_of h
  | field t x k => exact val_of h
  | indexAddr t x k => exact val_of h
  | index t x k => exact val_of h
  | slice t x lo hi m => exact val_of h
  | binOp b t x y t' => exact val_of h
  | unOp b t x => exact val_of h
  | build t ps => exact val_of h
  | extract t k => exact val_of h
  | convert t t' x => exact val_of h
  | call c =>
    obtain ⟨callee, args, argTypes⟩ := c
    cases callee with
    | builtin b =>
      cases b <;> first | (simp [reads] at hr; done) | skip
      simp only [execOp, resolve, invoke, builtin, Sem.run_bind, Sem.run_pure, Result.andThen_ok] at h
      refine val_of (s := Builtin.len_ argTypes type (args.map ρ)) (P := P) (w := w) (w' := w') ?_
      simp only [Sem.run_bind, Sem.run_pure]
      exact h
    | _ => simp [reads] at hr
  | _ => simp [reads] at hr

theorem quiet_reads {C : World → Prop} {o : Oper} {a : Act} {v : Value} (hr : reads o = true) {w : World} (h : o.quietAt P a C w v) : (execOp a.eval o).run P w = .ok (.value v) w := by
  unfold Oper.quietAt at h
  generalize hq : (execOp a.eval o).run P w = r at h
  cases r with
  | ok n w' =>
    obtain ⟨x, rfl⟩ := reads_value hr hq
    simp only [Oper.quietUpon] at h
    obtain ⟨rfl, rfl⟩ := h
    rfl
  | halt x w' => simp only [Oper.quietUpon] at h

/-- What reads is taken first. -/
theorem take_all (hs : Region.noSelect ops = true) (hQ : ∀ c a a' w, a.defers = a'.defers → Q (.panic c) a w → Q (.panic c) a' w) (fuel : Nat) (w : World) (hS : S w) :
    ∀ (is : List Nat) (listed : Array Bool) (a : Act), Closed ops listed → takeB ops last is listed = true → (is.all fun i => match ops[i]? with | some o => reads o | none => false) = true →
      wpQuiet P ops (fun w' => ∃ x : Held S, w' = held x) (fun a' => wpE P ops Q S last fuel (listAll listed is) a' w) (pickOps ops is) a → wpE P ops Q S last (fuel + is.length) listed a w
  | [], _, _, _, _, _, h => by simpa [pickOps, listAll, wpQuiet] using h
  | i :: is, listed, a, hcl, hB, hr, h => by
    simp only [takeB, Bool.and_eq_true] at hB
    obtain ⟨⟨⟨hw, hready⟩, hfree⟩, hB'⟩ := hB
    simp only [List.all_cons, Bool.and_eq_true] at hr
    obtain ⟨hri, hr'⟩ := hr
    cases ho : ops[i]? with
    | none => rw [ho] at hri; cases hri
    | some o =>
      rw [ho] at hri
      have e : pickOps ops (i :: is) = o :: pickOps ops is := by simp [pickOps, ho]
      rw [e] at h
      have go : ∀ v, YieldsIf P ops S o v a → wpQuiet P ops (fun w' => ∃ x : Held S, w' = held x) (fun a' => wpE P ops Q S last fuel (listAll (listed.setIfInBounds i true) is) a' w) (pickOps ops is) (a.put o.dst v) → wpE P ops Q S last (fuel + (i :: is).length) listed a w := fun v hy hk =>
        first ho (Region.noSelect_spec hs) hw (fun c a w => hQ c _ _ w (by cases o.dst <;> rfl)) (fuel + is.length) listed a w hcl (Region.free_spec ho hfree) (by simpa using hready) hy hS (take_all hs hQ fuel w hS is _ _ (hcl.set (by simpa using hready)) hB' hr' hk)
      unfold wpQuiet at h
      by_cases hwn : Region.wanted o (yielded ops a.tmps) = true
      · rw [if_pos hwn] at h
        obtain ⟨v, hv, hk⟩ := h
        exact go v (.inl ⟨hwn, fun w' hw' => quiet_reads hri (hv w' ⟨⟨w', hw'⟩, rfl⟩)⟩) hk
      · rw [if_neg hwn] at h
        exact go undef (.inr ⟨by simpa using hwn, rfl⟩) h

/-- The same, as it is used. -/
theorem take (is : List Nat) (fuel : Nat) {listed : Array Bool} {a : Act} {w : World} (hs : Region.noSelect ops = true) (hB : (closedB ops listed && takeB ops last is listed) = true) (hr : (is.all fun i => match ops[i]? with | some o => reads o | none => false) = true)
    (hQ : ∀ c a a' w, a.defers = a'.defers → Q (.panic c) a w → Q (.panic c) a' w) (hS : S w)
    (h : Nonempty (Held S) → wpQuiet P ops (fun w' => ∃ x : Held S, w' = held x) (fun a' => wpE P ops Q S last fuel (listAll listed is) a' w) (pickOps ops is) a) : wpE P ops Q S last (fuel + is.length) listed a w :=
  take_all hs hQ fuel w hS is listed a (closed_of (by rw [Bool.and_eq_true] at hB; exact hB.1)) (by rw [Bool.and_eq_true] at hB; exact hB.2) hr (h ⟨⟨w, hS⟩⟩)

theorem cons_form {C : World → Prop} {Q : Act → Prop} {o : Oper} {rest : List Oper} {a : Act} (h : wpQuiet P ops C Q (o :: rest) a) : wpQuiet P ops C Q (o :: rest) a := h
/-- The one operation that may come up. -/
theorem step {i : Nat} {o : Oper} {fuel : Nat} {listed : Array Bool} {a : Act} {w : World} (hr : Region.ready .any ops listed = [i]) (ho : ops[i]? = some o) (hg : o.guard = none)
    (h : o.wp P a w (fun a' w' => (i = last ∨ S w') ∧ wpE P ops Q S last fuel (listed.setIfInBounds i true) a' w') Q) : wpE P ops Q S last (fuel + 1) listed a w := by
  refine ⟨fun h0 => (by rw [hr] at h0; cases h0), fun j hj => ?_⟩
  rw [hr] at hj
  simp only [List.mem_singleton] at hj
  subst hj
  unfold wpOp
  simp only [ho]
  rw [if_pos (by simp [Region.wanted, hg])]
  exact .inl h

/-- Two that may come up. -/
theorem fork {i j : Nat} {oi oj : Oper} {fuel : Nat} {listed : Array Bool} {a : Act} {w : World} (hr : Region.ready .any ops listed = [i, j]) (hoi : ops[i]? = some oi) (hgi : oi.guard = none) (hoj : ops[j]? = some oj) (hgj : oj.guard = none)
    (h1 : oi.wp P a w (fun a' w' => (i = last ∨ S w') ∧ wpE P ops Q S last fuel (listed.setIfInBounds i true) a' w') Q)
    (h2 : oj.wp P a w (fun a' w' => (j = last ∨ S w') ∧ wpE P ops Q S last fuel (listed.setIfInBounds j true) a' w') Q) : wpE P ops Q S last (fuel + 1) listed a w := by
  refine ⟨fun h0 => (by rw [hr] at h0; cases h0), fun x hx => ?_⟩
  rw [hr] at hx
  simp only [List.mem_cons, List.not_mem_nil, or_false] at hx
  rcases hx with rfl | rfl
  · unfold wpOp
    simp only [hoi]
    rw [if_pos (by simp [Region.wanted, hgi])]
    exact .inl h1
  · unfold wpOp
    simp only [hoj]
    rw [if_pos (by simp [Region.wanted, hgj])]
    exact .inl h2

theorem done {listed : Array Bool} {a : Act} {w : World} (hr : Region.ready .any ops listed = []) (h : Q .normal a w) : wpE P ops Q S last 0 listed a w := ⟨hr, h⟩
end

theorem start {P : Program} {Q : Exit → Act → World → Prop} {l : List Oper} {id : Nat} {a : Act} {w : World} (S : World → Prop) (last : Nat) (hm : P.follows .mixedOrders = true)
    (h : wpE P l.toArray Q S last l.length (Array.replicate l.length false) a w.drew) : (Code.region id l.toArray true).wp P Q a w :=
  wp_region_any hm (by simpa using wpE_any _ _ _ _ h)

end Mix
end Go.Proofs.YtebklbncfcdkmaaDoor
