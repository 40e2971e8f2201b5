
/-
  The walks of LogCommon, LogBegins, chainPlace, tailOf and the reference's l4Has. No statement is proved here.
-/
import Derived.Test.YtebklbncfcdkmaaDoorC1
import Derived.Test.YtebklbncfcdkmaaDoorP2
namespace Go.Proofs.YtebklbncfcdkmaaDoor
open Go.RowKit

set_option maxHeartbeats 1000000 in
theorem logCommon_calls (a a' : Option Addr) (cap cap' : Nat) (us vs : List Upd) (w : World) (hm : us.length ≤ 1099511627776) (hm' : vs.length ≤ 1099511627776) (hx : UpdsAt w a us) (hy : UpdsAt w a' vs) (h1 : logOk us = true) (h2 : logOk vs = true) :
    Calls Tryd.prog 88 #[.slice a us.length cap, .slice a' vs.length cap'] w fun e w' => e = .returned (.int .i64 (cpl us vs)) ∧ Below w.heap.size w w' := by
  have H1 := Lib.hid h1; have H2 := Lib.hid h2; clear h1 h2
  go_enter Tryd.func88, Tryd.ntmps88
  go_wp2_with fail
  refine (logValid_calls _ _ _ _ hm hx).mono ?_
  rw [H1.out]
  rintro e w1 ⟨rfl, hb1⟩
  go_wp2_with fail
  refine (logValid_calls _ _ _ _ hm' (hy.below hb1)).mono ?_
  rw [H2.out]
  rintro e w2 ⟨rfl, hb2⟩
  have hB := hb1.trans (hb2.mono hb1.size)
  have hx := hx.below hB
  have hy := hy.below hB
  clear hb1 hb2
  go_wp2_with fail
  go_loopw [5] (fun i wr => ∃ k n : Nat, k ≤ us.length ∧ k ≤ vs.length ∧ i = .int .i64 k ∧ us.take k = vs.take k ∧ wr = w2.drewN n) (fun i _ => us.length - (intOf i).toNat)
  case atStart => exact ⟨0, 0, Nat.zero_le _, Nat.zero_le _, rfl, by simp, rfl⟩
  case round =>
    obtain ⟨k, n, hk, hk', rfl, heq, rfl⟩ := hrel
    have HE := Lib.hid heq
    have FN := Lib.hid (fun h => cpl_at k us vs hk hk' heq h)
    clear heq
    by_cases hlt : k < us.length
    · by_cases hlt' : k < vs.length
      · obtain ⟨b, off, rfl, c0, c1⟩ := hx.cells k hlt
        obtain ⟨b', off', rfl, d0, d1⟩ := hy.cells k hlt'
        have i1 : (0 : Int) ≤ (k : Int) := by omega
        have i2 : (k : Int) < (us.length : Int) := by omega
        have i3 : (k : Int) < (vs.length : Int) := by omega
        have e1 : us.getD k (0, 0) = us[k] := by simp [hlt]
        have e2 : vs.getD k (0, 0) = vs[k] := by simp [hlt']
        have NE := Lib.hid (fun h => FN.out (.inr (.inr (by rw [e1, e2]; exact h))))
        have ST := Lib.hid (fun h => takeU_eq_snoc HE.out hlt hlt' h)
        clear e1 e2
        generalize hu : us[k] = p at *
        generalize hv : vs[k] = q at *
        clear hu hv
        obtain ⟨p1, p2⟩ := p
        obtain ⟨q1, q2⟩ := q
        by_cases h1 : p1 = q1
        · by_cases h2 : p2 = q2
          · subst h1; subst h2
            go_wp2_with fail
            go_quiet (fail)
            go_wp2_with fail
            go_roundw
            case rel => exact ⟨k + 1, _, hlt, hlt', by go_num, ST.out (by first | rfl | trivial), rfl⟩
            case measure => simp [intOf]; omega
          · have NN := Lib.hid (NE.out (by simp [h2]))
            have g2 : (p2 == q2) = false := by simpa using h2
            subst h1
            clear h2
            go_wp2_with fail
            go_quiet (fail)
            go_wp2_with fail
            go_ret
            exact ⟨by rw [NN.out]; rfl, below_drewN (below_drewN hB _) _⟩
        · have NN := Lib.hid (NE.out (by simp [h1]))
          have g1 : (p1 == q1) = false := by simpa using h1
          clear h1
          go_wp2_with fail
          go_quiet (fail)
          go_wp2_with fail
          go_ret
          exact ⟨by rw [NN.out]; rfl, below_drewN (below_drewN hB _) _⟩
      · have NN := Lib.hid (FN.out (.inr (.inl (by omega))))
        have hd : decide (k < vs.length) = false := by simpa using hlt'
        clear hlt'
        go_wp2_with fail
        go_quiet (fail)
        go_wp2_with fail
        go_ret
        exact ⟨by rw [NN.out]; rfl, below_drewN (below_drewN hB _) _⟩
    · have NN := Lib.hid (FN.out (.inl (by omega)))
      have hd : decide (k < us.length) = false := by simpa using hlt
      clear hlt
      go_wp2_with fail
      go_quiet (fail)
      go_wp2_with fail
      go_ret
      exact ⟨by rw [NN.out]; rfl, below_drewN (below_drewN hB _) _⟩

/-- One log is the beginning of the other. -/
def preOk (us vs : List Upd) : Bool := decide (cpl us vs = us.length)
theorem preOk_iff {us vs : List Upd} : preOk us vs = true ↔ us <+: vs := by rw [preOk, decide_eq_true_eq, cpl_pre]

set_option maxHeartbeats 1000000 in
theorem logBegins_calls (a a' : Option Addr) (cap cap' : Nat) (us vs : List Upd) (w : World) (hm : us.length ≤ 1099511627776) (hm' : vs.length ≤ 1099511627776) (hx : UpdsAt w a us) (hy : UpdsAt w a' vs) (h1 : logOk us = true) (h2 : logOk vs = true) :
    Calls Tryd.prog 69 #[.slice a us.length cap, .slice a' vs.length cap'] w fun e w' => e = .returned (.bool (preOk us vs)) ∧ Below w.heap.size w w' := by
  have H1 := Lib.hid h1; have H2 := Lib.hid h2; clear h1 h2
  have F : Hid (preOk us vs = decide (cpl us vs = us.length)) := Lib.hid rfl
  go_enter Tryd.func69, Tryd.ntmps69
  go_wp2_with fail
  refine (logValid_calls _ _ _ _ hm hx).mono ?_
  rw [H1.out]
  rintro e w1 ⟨rfl, hb1⟩
  go_wp2_with fail
  refine (logCommon_calls _ _ _ _ _ _ _ hm hm' (hx.below hb1) (hy.below hb1) H1.out H2.out).mono ?_
  rintro e w2 ⟨rfl, hb2⟩
  generalize cpl us vs = q at *
  go_wp2_with fail
  go_ret
  exact ⟨ret_bool (by rw [F.out, Bool.eq_iff_iff]; simp; omega), hb1.trans (hb2.mono hb1.size)⟩

theorem map_getD {ns : List Nd} {j : Nat} (hj : j < ns.length) : (ns.map Nd.id).getD j 0 = (nd ns j).id := by simp [nd, hj]
/-- The place of a node, or -1. -/
def cplace (ns : List Nd) (x : Int) : Int := place (ns.map Nd.id) x
theorem cplace_at {ns : List Nd} {x : Int} (k : Nat) (hk : k < ns.length) (he : (nd ns k).id = x) (hn : ∀ j, j < k → (nd ns j).id ≠ x) : cplace ns x = k :=
  place_at _ _ k (by simpa using hk) (by rw [← he, nd_eq hk]; simp) fun j hj => by rw [map_getD (by omega)]; exact hn j hj
theorem cplace_none {ns : List Nd} {x : Int} (hn : ∀ j, j < ns.length → (nd ns j).id ≠ x) : cplace ns x = -1 :=
  place_none _ _ fun j hj => by rw [map_getD (by simpa using hj)]; exact hn j (by simpa using hj)

set_option maxHeartbeats 1000000 in
theorem chainPlace_calls (view : Int) (a : Option Addr) (cap : Nat) (ns : List Nd) (x : Int) (w : World) (hm : ns.length ≤ 1099511627776) (hx : NodesAt w a ns) :
    Calls Tryd.prog 68 #[.agg #[.int .i64 view, .slice a ns.length cap], .int .i64 x] w fun e w' => e = .returned (.int .i64 (cplace ns x)) ∧ Below w.heap.size w w' := by
  have s0 := (St.start w).alloc (.cells #[.int .i64 view, .slice a ns.length cap] 40)
  go_enter Tryd.func68, Tryd.ntmps68
  go_wp2_with fail
  go_loopw [10] (fun i wr => ∃ k : Nat, k ≤ ns.length ∧ i = .int .i64 k ∧ (∀ j, j < k → (nd ns j).id ≠ x) ∧ Below w.heap.size w wr) (fun i _ => ns.length - (intOf i).toNat)
  case atStart => exact ⟨0, Nat.zero_le _, rfl, by intro j hj; omega, s0.below⟩
  case round =>
    obtain ⟨k, hk, rfl, hno, hB⟩ := hrel
    have HN := Lib.hid hno
    clear hno
    by_cases hlt : k < ns.length
    · obtain ⟨b, off, rfl, c0, c1, c2⟩ := (hx.below hB).cells k hlt
      have i1 : (0 : Int) ≤ (k : Int) := by omega
      have i2 : (k : Int) < (ns.length : Int) := by omega
      have hBA := hB.alloc hB.size (.cells #[.int .i64 (nd ns k).id, .slice (nd ns k).a (nd ns k).us.length (nd ns k).cap, .int .i64 (nd ns k).done] 44 (0, 0))
      have YES := Lib.hid (fun h => cplace_at k hlt h HN.out)
      have NO : Hid ((nd ns k).id ≠ x → ∀ j, j < k + 1 → (nd ns j).id ≠ x) := Lib.hid (fun h j hj => by
        by_cases e : j = k
        · rw [e]; exact h
        · exact HN.out j (by omega))
      generalize (nd ns k).id = p at *
      generalize (nd ns k).done = q at *
      generalize (nd ns k).us.length = l at *
      generalize (nd ns k).cap = c at *
      generalize (nd ns k).a = y at *
      by_cases he : p = x
      · have Y := Lib.hid (YES.out he)
        subst he
        go_wp2_with fail
        go_ret
        exact ⟨by rw [Y.out]; rfl, hBA⟩
      · have N := Lib.hid (NO.out he)
        have he' : (p == x) = false := by simpa using he
        clear he
        go_wp2_with fail
        go_roundw
        case rel => exact ⟨k + 1, hlt, by go_num, N.out, hBA⟩
        case measure => simp [intOf]; omega
    · have Y : Hid (cplace ns x = -1) := Lib.hid (cplace_none fun j hj => HN.out j (by omega))
      go_wp2_with fail
      go_ret
      exact ⟨by rw [Y.out]; rfl, hB⟩

set_option maxHeartbeats 1000000 in
theorem l4Has_calls (a : Option Addr) (cap : Nat) (ns : List Nd) (x : Int) (n : Nat) (w : World) (hn : n = ns.length) (hm : n ≤ 1099511627776) (hx : CellsAt w a (ncells ns)) :
    Calls Tryd.prog 72 #[.slice a n cap, .int .i64 x] w fun e w' => e = .returned (.bool (decide (0 ≤ cplace ns x))) ∧ w = w' := by
  subst hn
  have HX := Lib.hid hx
  clear hx
  go_enter Tryd.func72, Tryd.ntmps72
  go_wp2_with fail
  go_loop [5] (fun i => ∃ k : Nat, k ≤ ns.length ∧ i = .int .i64 k ∧ (∀ j, j < k → (nd ns j).id ≠ x)) (fun i => ns.length - (intOf i).toNat)
  case atStart => exact ⟨0, Nat.zero_le _, rfl, by intro j hj; omega⟩
  case round =>
    obtain ⟨k, hk, rfl, hno⟩ := hrel
    have HN := Lib.hid hno
    clear hno
    by_cases hlt : k < ns.length
    · have hl := ncells_len ns
      rcases HX.out with h | ⟨b, off, rfl, hc⟩
      · rw [h] at hl; simp at hl; omega
      have c0 := hc (k * 3) (by omega)
      rw [(ncells_at ns k hlt).1] at c0
      have i1 : (0 : Int) ≤ (k : Int) := by omega
      have i2 : (k : Int) < (ns.length : Int) := by omega
      have YES : Hid ((nd ns k).id = x → decide (0 ≤ cplace ns x) = true) := Lib.hid (fun h => by rw [cplace_at k hlt h HN.out]; simp)
      have NO : Hid ((nd ns k).id ≠ x → ∀ j, j < k + 1 → (nd ns j).id ≠ x) := Lib.hid (fun h j hj => by
        by_cases e : j = k
        · rw [e]; exact h
        · exact HN.out j (by omega))
      clear hc hl HX
      generalize (nd ns k).id = p at *
      by_cases he : p = x
      · have Y := Lib.hid (YES.out he)
        subst he
        go_wp2_with fail
        go_ret
        exact ⟨by rw [Y.out]; rfl, rfl⟩
      · have N := Lib.hid (NO.out he)
        have he' : (p == x) = false := by simpa using he
        clear he
        go_wp2_with fail
        go_round
        case rel => exact ⟨k + 1, hlt, by go_num, N.out⟩
        case measure => simp [intOf]; omega
    · have Y : Hid (decide (0 ≤ cplace ns x) = false) := Lib.hid (by rw [cplace_none fun j hj => HN.out j (by omega)]; rfl)
      clear HX
      go_wp2_with fail
      go_ret
      exact ⟨by rw [Y.out]; rfl, rfl⟩

/-- A node as tailOf gives it. -/
def nodeV (n : Nd) : Value := .agg #[.int .i64 n.id, .slice n.a n.us.length n.cap, .int .i64 n.done]

set_option maxHeartbeats 1000000 in
theorem tailOf_calls (view : Int) (a : Option Addr) (cap : Nat) (ns : List Nd) (w : World) (hm : ns.length ≤ 1099511627776) (h0 : 0 < ns.length) (hx : NodesAt w a ns) :
    Calls Tryd.prog 70 #[.agg #[.int .i64 view, .slice a ns.length cap]] w fun e w' => e = .returned (nodeV (nd ns (ns.length - 1))) ∧ Below w.heap.size w w' := by
  have s0 := (St.start w).alloc (.cells #[.int .i64 view, .slice a ns.length cap] 40)
  have s1 := s0.alloc (.cells #[.int .i64 0, .slice none 0 0, .int .i64 0] 44)
  obtain ⟨k, hk⟩ : ∃ k, k = ns.length - 1 := ⟨_, rfl⟩
  obtain ⟨b, off, rfl, c0, c1, c2⟩ := (hx.below s1.below).cells k (by omega)
  have ei : (ns.length : Int) - 1 = (k : Int) := by omega
  have i1 : (0 : Int) ≤ (k : Int) := by omega
  have i2 : (k : Int) < (ns.length : Int) := by omega
  rw [← hk]
  unfold nodeV
  generalize (nd ns k).id = p at *
  generalize (nd ns k).done = q at *
  generalize (nd ns k).us.length = l at *
  generalize (nd ns k).cap = c at *
  generalize (nd ns k).a = y at *
  clear hk
  go_enter Tryd.func70, Tryd.ntmps70
  go_wp2_with fail
  exact bodyPost_ret (v := .agg #[.int .i64 p, .slice y l c, .int .i64 q]) (by simp [results, Tryd.results70, go_sem]) rfl ⟨rfl, ((Below.refl _ _).alloc (Nat.le_refl _) _).alloc (by simp) _⟩

set_option maxHeartbeats 1000000 in
theorem lawTailOf_calls (view : Int) (a : Option Addr) (cap : Nat) (ns : List Nd) (w : World) (hm : ns.length ≤ 1099511627776) (h0 : 0 < ns.length) (hx : NodesAt w a ns) :
    Calls Tryd.prog 26 #[.agg #[.int .i64 view, .slice a ns.length cap]] w fun e w' => e = .returned (nodeV (nd ns (ns.length - 1))) ∧ Below w.heap.size w w' := by
  have s0 := (St.start w).alloc (.cells #[.int .i64 view, .slice a ns.length cap] 40)
  have s1 := s0.alloc (.cells #[.int .i64 0, .slice none 0 0, .int .i64 0] 44)
  obtain ⟨k, hk⟩ : ∃ k, k = ns.length - 1 := ⟨_, rfl⟩
  obtain ⟨b, off, rfl, c0, c1, c2⟩ := (hx.below s1.below).cells k (by omega)
  have ei : (ns.length : Int) - 1 = (k : Int) := by omega
  have i1 : (0 : Int) ≤ (k : Int) := by omega
  have i2 : (k : Int) < (ns.length : Int) := by omega
  rw [← hk]
  unfold nodeV
  generalize (nd ns k).id = p at *
  generalize (nd ns k).done = q at *
  generalize (nd ns k).us.length = l at *
  generalize (nd ns k).cap = c at *
  generalize (nd ns k).a = y at *
  clear hk
  go_enter Tryd.func26, Tryd.ntmps26
  go_wp2_with fail
  exact bodyPost_ret (v := .agg #[.int .i64 p, .slice y l c, .int .i64 q]) (by simp [results, Tryd.results26, go_sem]) rfl ⟨rfl, ((Below.refl _ _).alloc (Nat.le_refl _) _).alloc (by simp) _⟩

end Go.Proofs.YtebklbncfcdkmaaDoor
