
/-
  Words on chains: nodes that lie in memory, what a valid chain is; the walks of the functions that compare logs. No statement is proved here.
-/
import Derived.Test.YtebklbncfcdkmaaDoorN1
namespace Go.Proofs.YtebklbncfcdkmaaDoor
open Go.RowKit

/-- A node, with the place of its log. -/
structure Nd where
  id : Int
  a : Option Addr
  cap : Nat
  us : List Upd
  done : Int
instance : Inhabited Nd := ⟨⟨0, none, 0, [], 0⟩⟩
def nd (ns : List Nd) (i : Nat) : Nd := ns.getD i default
theorem nd_eq {ns : List Nd} {i : Nat} (h : i < ns.length) : nd ns i = ns[i] := by simp [nd, h]

def ncells (ns : List Nd) : List Value := ns.flatMap fun n => [.int .i64 n.id, .slice n.a n.us.length n.cap, .int .i64 n.done]
theorem ncells_cons (n : Nd) (r : List Nd) : ncells (n :: r) = .int .i64 n.id :: .slice n.a n.us.length n.cap :: .int .i64 n.done :: ncells r := rfl
theorem ncells_len (ns : List Nd) : (ncells ns).length = ns.length * 3 := by
  induction ns with
  | nil => rfl
  | cons n r ih =>
    rw [ncells_cons]
    simp only [List.length_cons, ih]
    omega
theorem ncells_at (ns : List Nd) (j : Nat) (hj : j < ns.length) : (ncells ns)[j * 3]? = some (.int .i64 (nd ns j).id) ∧ (ncells ns)[j * 3 + 1]? = some (.slice (nd ns j).a (nd ns j).us.length (nd ns j).cap) ∧ (ncells ns)[j * 3 + 2]? = some (.int .i64 (nd ns j).done) := by
  induction ns generalizing j with
  | nil => simp at hj
  | cons n r ih =>
    rw [ncells_cons]
    cases j with
    | zero => exact ⟨rfl, rfl, rfl⟩
    | succ j =>
      have := ih j (by simpa using hj)
      have e : nd (n :: r) (j + 1) = nd r j := by simp [nd]
      rw [e, show (j + 1) * 3 = j * 3 + 1 + 1 + 1 by omega, show j * 3 + 1 + 1 + 1 + 1 = (j * 3 + 1) + 1 + 1 + 1 by omega, show j * 3 + 1 + 1 + 1 + 2 = (j * 3 + 2) + 1 + 1 + 1 by omega]
      simpa using this
theorem ncells_append (ns ms : List Nd) : ncells (ns ++ ms) = ncells ns ++ ncells ms := by simp [ncells]

/-- The logs of the nodes lie where they should. -/
def LogsAt (w : World) (ns : List Nd) : Prop := ∀ n ∈ ns, UpdsAt w n.a n.us ∧ n.us.length ≤ n.cap
/-- The nodes lie from a on. -/
def NodesAt (w : World) (a : Option Addr) (ns : List Nd) : Prop := CellsAt w a (ncells ns) ∧ LogsAt w ns
theorem LogsAt.below {w w' : World} {ns : List Nd} (h : LogsAt w ns) (hb : Below w.heap.size w w') : LogsAt w' ns := fun n hn => ⟨(h n hn).1.below hb, (h n hn).2⟩
theorem NodesAt.below {w w' : World} {a : Option Addr} {ns : List Nd} (h : NodesAt w a ns) (hb : Below w.heap.size w w') : NodesAt w' a ns := ⟨CellsAt.below h.1 hb, h.2.below hb⟩
theorem LogsAt.at {w : World} {ns : List Nd} (h : LogsAt w ns) {j : Nat} (hj : j < ns.length) : UpdsAt w (nd ns j).a (nd ns j).us ∧ (nd ns j).us.length ≤ (nd ns j).cap := by
  rw [nd_eq hj]; exact h _ (List.getElem_mem hj)
theorem NodesAt.cells {w : World} {a : Option Addr} {ns : List Nd} (h : NodesAt w a ns) (j : Nat) (hj : j < ns.length) : ∃ b off, a = some ⟨b, off, none⟩ ∧ w.cell? ⟨b, off + j * 3, none⟩ = some (.int .i64 (nd ns j).id) ∧ w.cell? ⟨b, off + j * 3 + 1, none⟩ = some (.slice (nd ns j).a (nd ns j).us.length (nd ns j).cap) ∧ w.cell? ⟨b, off + j * 3 + 2, none⟩ = some (.int .i64 (nd ns j).done) := by
  have hl := ncells_len ns
  rcases h.1 with h | ⟨b, off, rfl, hc⟩
  · rw [h] at hl; simp at hl; omega
  · obtain ⟨h1, h2, h3⟩ := ncells_at ns j hj
    refine ⟨b, off, rfl, ?_, ?_, ?_⟩
    · rw [hc (j * 3) (by omega), h1]
    · rw [Nat.add_assoc, hc (j * 3 + 1) (by omega), h2]
    · rw [Nat.add_assoc, hc (j * 3 + 2) (by omega), h3]

/-- How many updates two logs have in common. -/
def cpl : List Upd → List Upd → Nat
  | x :: xs, y :: ys => if x = y then cpl xs ys + 1 else 0
  | _, _ => 0
theorem cpl_at : ∀ (k : Nat) (xs ys : List Upd), k ≤ xs.length → k ≤ ys.length → xs.take k = ys.take k → (k = xs.length ∨ k = ys.length ∨ xs.getD k (0, 0) ≠ ys.getD k (0, 0)) → cpl xs ys = k
  | 0, [], _, _, _, _, _ => by simp [cpl]
  | 0, _ :: _, [], _, _, _, _ => by simp [cpl]
  | 0, x :: xs, y :: ys, _, _, _, h => by
    simp at h
    simp [cpl, h]
  | k + 1, [], _, h, _, _, _ => by simp at h
  | k + 1, _ :: _, [], _, h, _, _ => by simp at h
  | k + 1, x :: xs, y :: ys, h1, h2, h3, h4 => by
    simp at h3
    have := cpl_at k xs ys (by simpa using h1) (by simpa using h2) h3.2 (by simpa using h4)
    simp [cpl, h3.1, this]
theorem cpl_le : ∀ (xs ys : List Upd), cpl xs ys ≤ xs.length
  | [], _ => by simp [cpl]
  | _ :: _, [] => by simp [cpl]
  | x :: xs, y :: ys => by
    have := cpl_le xs ys
    simp [cpl]
    split <;> omega
theorem cpl_pre : ∀ (xs ys : List Upd), cpl xs ys = xs.length ↔ xs <+: ys
  | [], _ => by simp [cpl]
  | x :: xs, [] => by simp [cpl]
  | x :: xs, y :: ys => by
    have := cpl_pre xs ys
    rw [List.cons_prefix_cons, ← this]
    simp only [cpl, List.length_cons]
    split
    · rename_i h; simp [h]
    · rename_i h; simp [h]

def stepP (ns : List Nd) (i : Nat) : Prop :=
  nodeOk (nd ns i).id (nd ns i).us (nd ns i).done = true ∧ (∀ j, j < i → (nd ns j).id ≠ (nd ns i).id) ∧ (0 < i → (nd ns i).us <+: (nd ns (i - 1)).us ∧ (nd ns (i - 1)).done ≤ (nd ns i).done)
def tailP (ns : List Nd) : Prop := (nd ns (ns.length - 1)).done = (nd ns (ns.length - 1)).us.length
def chainP (view : Int) (ns : List Nd) : Prop := (0 ≤ view ∧ view ≤ 999) ∧ (1 ≤ ns.length ∧ ns.length ≤ 5) ∧ (∀ i, i < ns.length → stepP ns i) ∧ tailP ns
/-- What ChainValid gives. -/
noncomputable def chainOk (view : Int) (ns : List Nd) : Bool := @decide (chainP view ns) (Classical.propDecidable _)
theorem chainOk_iff {view : Int} {ns : List Nd} : chainOk view ns = true ↔ chainP view ns := by simp [chainOk]
theorem chainOk_not {view : Int} {ns : List Nd} (h : ¬ chainP view ns) : chainOk view ns = false := by simp [chainOk, h]
theorem chainOk_yes {view : Int} {ns : List Nd} (h : chainP view ns) : chainOk view ns = true := by simp [chainOk, h]

theorem takeU_eq_snoc {xs ys : List Upd} {k : Nat} (h : xs.take k = ys.take k) (hx : k < xs.length) (hy : k < ys.length) (he : xs[k] = ys[k]) : xs.take (k + 1) = ys.take (k + 1) := by
  rw [List.take_succ_eq_append_getElem hx, List.take_succ_eq_append_getElem hy, h, he]

set_option maxHeartbeats 1000000 in
theorem l1Common_calls (a a' : Option Addr) (cap cap' : Nat) (us vs : List Upd) (w : World) (hm : us.length ≤ 1099511627776) (hm' : vs.length ≤ 1099511627776) (hx : UpdsAt w a us) (hy : UpdsAt w a' vs) :
    Calls Tryd.prog 73 #[.slice a us.length cap, .slice a' vs.length cap'] w fun e w' => e = .returned (.int .i64 (cpl us vs)) ∧ Below w.heap.size w w' := by
  go_enter Tryd.func73, Tryd.ntmps73
  go_wp2_with fail
  go_loopw [5] (fun i wr => ∃ k n : Nat, k ≤ us.length ∧ k ≤ vs.length ∧ i = .int .i64 k ∧ us.take k = vs.take k ∧ wr = w.drewN n) (fun i _ => us.length - (intOf i).toNat)
  case atStart => exact ⟨0, 0, Nat.zero_le _, Nat.zero_le _, rfl, by simp, rfl⟩
  case round =>
    obtain ⟨k, n, hk, hk', rfl, heq, rfl⟩ := hrel
    have HE := Lib.hid heq
    have FN := Lib.hid (fun h => cpl_at k us vs hk hk' heq h)
    clear heq
    by_cases hlt : k < us.length
    · by_cases hlt' : k < vs.length
      · obtain ⟨b, off, rfl, c0, c1⟩ := hx.cells k hlt
        obtain ⟨b', off', rfl, d0, d1⟩ := hy.cells k hlt'
        have i1 : (0 : Int) ≤ (k : Int) := by omega
        have i2 : (k : Int) < (us.length : Int) := by omega
        have i3 : (k : Int) < (vs.length : Int) := by omega
        have e1 : us.getD k (0, 0) = us[k] := by simp [hlt]
        have e2 : vs.getD k (0, 0) = vs[k] := by simp [hlt']
        have NE := Lib.hid (fun h => FN.out (.inr (.inr (by rw [e1, e2]; exact h))))
        have ST := Lib.hid (fun h => takeU_eq_snoc HE.out hlt hlt' h)
        clear e1 e2
        generalize hu : us[k] = p at *
        generalize hv : vs[k] = q at *
        clear hu hv
        obtain ⟨p1, p2⟩ := p
        obtain ⟨q1, q2⟩ := q
        by_cases h1 : p1 = q1
        · by_cases h2 : p2 = q2
          · subst h1; subst h2
            go_wp2_with fail
            go_quiet (fail)
            go_wp2_with fail
            go_roundw
            case rel => exact ⟨k + 1, _, hlt, hlt', by go_num, ST.out (by first | rfl | trivial), rfl⟩
            case measure => simp [intOf]; omega
          · have NN := Lib.hid (NE.out (by simp [h2]))
            have g2 : (p2 == q2) = false := by simpa using h2
            subst h1
            clear h2
            go_wp2_with fail
            go_quiet (fail)
            go_wp2_with fail
            go_ret
            exact ⟨by rw [NN.out]; rfl, below_drewN (below_drewN (Below.refl _ _) _) _⟩
        · have NN := Lib.hid (NE.out (by simp [h1]))
          have g1 : (p1 == q1) = false := by simpa using h1
          clear h1
          go_wp2_with fail
          go_quiet (fail)
          go_wp2_with fail
          go_ret
          exact ⟨by rw [NN.out]; rfl, below_drewN (below_drewN (Below.refl _ _) _) _⟩
      · have NN := Lib.hid (FN.out (.inr (.inl (by omega))))
        have hd : decide (k < vs.length) = false := by simpa using hlt'
        clear hlt'
        go_wp2_with fail
        go_quiet (fail)
        go_wp2_with fail
        go_ret
        exact ⟨by rw [NN.out]; rfl, below_drewN (below_drewN (Below.refl _ _) _) _⟩
    · have NN := Lib.hid (FN.out (.inl (by omega)))
      have hd : decide (k < us.length) = false := by simpa using hlt
      clear hlt
      go_wp2_with fail
      go_quiet (fail)
      go_wp2_with fail
      go_ret
      exact ⟨by rw [NN.out]; rfl, below_drewN (below_drewN (Below.refl _ _) _) _⟩

end Go.Proofs.YtebklbncfcdkmaaDoor
