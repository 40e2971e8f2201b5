
/-
  The walks of the methods of a heap of servers. No statement is proved here.
-/
import Derived.Test.YtebklbncfcdkmaaX1
import Derived.Test.YtebklbncfcdkmaaV0
import Derived.Test.YtebklbncfcdkmaaMx
import Derived.Test.YtebklbncfcdkmaaOc
import Derived.Test.YtebklbncfcdkmaaJn
import Derived.Test.YtebklbncfcdkmaaXr
namespace Go.Proofs.Ytebklbncfcdkmaa
open Go.RowKit

/-- The cells of a heap's servers. -/
def hcells (p : Int) : List Int → List Value
  | [] => []
  | s :: l => .int .i64 s :: .int .i64 (scoreP p s) :: hcells p l
theorem hcells_len (p : Int) : ∀ l, (hcells p l).length = l.length * 2
  | [] => rfl
  | s :: l => by simp [hcells, hcells_len p l]; omega
theorem hcells_append (p : Int) : ∀ l m, hcells p (l ++ m) = hcells p l ++ hcells p m
  | [], _ => rfl
  | s :: l, m => by simp [hcells, hcells_append p l m]
theorem hcells_take (p : Int) : ∀ l n, (hcells p l).take (n * 2) = hcells p (l.take n)
  | [], n => by simp [hcells]
  | s :: l, 0 => by simp [hcells]
  | s :: l, n + 1 => by rw [show (n + 1) * 2 = n * 2 + 2 by omega]; simp [hcells, hcells_take p l n]
theorem hcells_at (p : Int) : ∀ (l : List Int) (i : Nat), i < l.length → (hcells p l)[i * 2]? = some (.int .i64 (hat l i)) ∧ (hcells p l)[i * 2 + 1]? = some (.int .i64 (scoreP p (hat l i)))
  | [], i, h => absurd h (by simp)
  | s :: l, 0, h => by simp [hcells, hat]
  | s :: l, i + 1, h => by
    have := hcells_at p l i (by simpa using h)
    rw [show (i + 1) * 2 = i * 2 + 2 by omega]
    simpa [hcells, hat] using this
theorem hcells_set (p : Int) : ∀ (l : List Int) (i : Nat) (x : Int), ((hcells p l).set (i * 2) (.int .i64 x)).set (i * 2 + 1) (.int .i64 (scoreP p x)) = hcells p (l.set i x)
  | [], i, x => by simp [hcells]
  | s :: l, 0, x => by simp [hcells]
  | s :: l, i + 1, x => by
    have := hcells_set p l i x
    rw [show (i + 1) * 2 = i * 2 + 2 by omega]
    simpa [hcells] using this

set_option maxHeartbeats 400000 in
theorem heapLen_calls (a : Option Addr) (n cap : Nat) (w : World) :
    Calls Try.prog 54 #[.slice a n cap] w fun e w' => e = .returned (.int .i64 n) ∧ w = w' := by
  go_enter Try.func54, Try.ntmps54
  go_wp2
  go_ret
  exact ⟨rfl, rfl⟩

set_option maxHeartbeats 1000000 in
theorem heapLess_st {w0 w : World} {rs : List Res} (p : Int) (a : Option Addr) (cap : Nat) (l : List Int) (i j : Nat) (h : St w0 w (row (.slice a l.length cap) 52 2 l.length (hcells p l) :: rs)) (hi : i < l.length) (hj : j < l.length) (hl : l.length ≤ 1000) :
    Calls Try.prog 55 #[.slice a l.length cap, .int .i64 i, .int .i64 j] w fun e w' => e = .returned (.bool (decide (bt p (hat l i) (hat l j)))) ∧ St w0 w' (row (.slice a l.length cap) 52 2 l.length (hcells p l) :: rs) := by
  have hlen := hcells_len p l
  obtain ⟨g, c, e, _, _⟩ := h.own.form (by omega)
  cases e
  obtain ⟨i0, i1⟩ := hcells_at p l i hi
  obtain ⟨j0, j1⟩ := hcells_at p l j hj
  have c0 := h.own.cellAt (i * 2) (by omega)
  have c1 := h.own.cellAt (i * 2 + 1) (by omega)
  have d0 := h.own.cellAt (j * 2) (by omega)
  have d1 := h.own.cellAt (j * 2 + 1) (by omega)
  rw [i0] at c0; rw [i1] at c1; rw [j0] at d0; rw [j1] at d1
  have B : Hid (decide (bt p (hat l i) (hat l j)) = if scoreP p (hat l i) = scoreP p (hat l j) then decide (hat l i < hat l j) else decide (scoreP p (hat l j) < scoreP p (hat l i))) := Lib.hid (by
    split
    · rename_i e; exact decide_eq_decide.2 (bt_same e)
    · rename_i e; exact decide_eq_decide.2 (bt_apart e))
  have FIN := Lib.hid (fun n => h.drewN n)
  generalize decide (bt p (hat l i) (hat l j)) = r at *
  generalize scoreP p (hat l i) = si at *
  generalize scoreP p (hat l j) = sj at *
  generalize hat l i = xi at *
  generalize hat l j = xj at *
  clear hlen i0 i1 j0 j1 h
  generalize l.length = n at *
  have b1 : (0 : Int) ≤ (i : Int) := by omega
  have b2 : (i : Int) < (n : Int) := by omega
  have b3 : (0 : Int) ≤ (j : Int) := by omega
  have b4 : (j : Int) < (n : Int) := by omega
  by_cases e : si = sj
  · have EB := B.out
    rw [if_pos e] at EB
    have EB := Lib.hid EB
    clear B
    subst e
    go_enter Try.func55, Try.ntmps55
    go_wp2_with fail
    go_quiet (fail)
    go_wp2_with fail
    go_quiet (fail)
    go_wp2_with fail
    exact bodyPost_ret (v := .bool (decide (xi < xj))) (by simp [results, Try.results55, go_sem]) rfl ⟨by rw [EB.out], by simpa using FIN.out _⟩
  · have EB := B.out
    rw [if_neg e] at EB
    have EB := Lib.hid EB
    clear B
    go_enter Try.func55, Try.ntmps55
    go_wp2_with fail
    go_quiet (fail)
    go_wp2_with fail
    go_quiet (fail)
    go_wp2_with fail
    exact bodyPost_ret (v := .bool (decide (sj < si))) (by simp [results, Try.results55, go_sem]) rfl ⟨by rw [EB.out], by simpa using (FIN.out _).drewN _⟩

set_option maxRecDepth 100000 in
set_option maxHeartbeats 2000000 in
theorem heapSwap_st {w0 w : World} {rs : List Res} (p : Int) (a : Option Addr) (cap : Nat) (l : List Int) (i j : Nat) (h : St w0 w (row (.slice a l.length cap) 52 2 l.length (hcells p l) :: rs)) (hi : i < l.length) (hj : j < l.length) (hl : l.length ≤ 1000) :
    Calls Try.prog 58 #[.slice a l.length cap, .int .i64 i, .int .i64 j] w fun e w' => e = .returned (.tuple #[]) ∧ St w0 w' (row (.slice a l.length cap) 52 2 l.length (hcells p (swapL l i j)) :: rs) := by
  have hlen := hcells_len p l
  obtain ⟨g, c, e, _, _⟩ := h.own.form (by omega)
  cases e
  obtain ⟨i0, i1⟩ := hcells_at p l i hi
  obtain ⟨j0, j1⟩ := hcells_at p l j hj
  have c0 := h.own.cellAt (i * 2) (by omega)
  have c1 := h.own.cellAt (i * 2 + 1) (by omega)
  have d0 := h.own.cellAt (j * 2) (by omega)
  have d1 := h.own.cellAt (j * 2 + 1) (by omega)
  have f := fun k => h.own.frozenAt k
  rw [i0] at c0; rw [i1] at c1; rw [j0] at d0; rw [j1] at d1
  obtain ⟨u1, k1⟩ : ∃ u, (w.setCell ⟨g, i * 2, none⟩ (.int .i64 (hat l j))).cell? ⟨g, j * 2, none⟩ = some u := ⟨_, ((h.rowSet (i * 2) (.int .i64 (hat l j))).own.cellAt (j * 2) (by omega)).trans (List.getElem?_eq_getElem (by simp; omega))⟩
  obtain ⟨u2, k2⟩ : ∃ u, ((w.setCell ⟨g, i * 2, none⟩ (.int .i64 (hat l j))).setCell ⟨g, i * 2 + 1, none⟩ (.int .i64 (scoreP p (hat l j)))).cell? ⟨g, j * 2 + 1, none⟩ = some u := ⟨_, (((h.rowSet (i * 2) (.int .i64 (hat l j))).rowSet (i * 2 + 1) (.int .i64 (scoreP p (hat l j)))).own.cellAt (j * 2 + 1) (by omega)).trans (List.getElem?_eq_getElem (by simp; omega))⟩
  have FIN := Lib.hid ((((h.rowSet (i * 2) (.int .i64 (hat l j))).rowSet (i * 2 + 1) (.int .i64 (scoreP p (hat l j)))).rowSet (j * 2) (.int .i64 (hat l i))).rowSet (j * 2 + 1) (.int .i64 (scoreP p (hat l i)))).drew
  have E : ((((hcells p l).set (i * 2) (.int .i64 (hat l j))).set (i * 2 + 1) (.int .i64 (scoreP p (hat l j)))).set (j * 2) (.int .i64 (hat l i))).set (j * 2 + 1) (.int .i64 (scoreP p (hat l i))) = hcells p (swapL l i j) := by
    rw [hcells_set, hcells_set]; rfl
  rw [E] at FIN
  generalize hcells p (swapL l i j) = cs at *
  generalize scoreP p (hat l i) = si at *
  generalize scoreP p (hat l j) = sj at *
  generalize hat l i = xi at *
  generalize hat l j = xj at *
  clear hlen i0 i1 j0 j1 h E
  generalize l.length = n at *
  have b1 : (0 : Int) ≤ (i : Int) := by omega
  have b2 : (i : Int) < (n : Int) := by omega
  have b3 : (0 : Int) ≤ (j : Int) := by omega
  have b4 : (j : Int) < (n : Int) := by omega
  go_enter Try.func58, Try.ntmps58
  go_wp2_with fail
  go_region
  go_wp2_with fail
  exact ⟨rfl, .tuple #[], by simp [results, Try.results58, go_sem], rfl, by simpa using FIN.out⟩

theorem elem_scored : Elem Try.prog 48 52 2 16 := by
  obtain ⟨i, hi, h0, h1, h2⟩ := info_parts (show (Try.prog.info? 52).map (fun i => (i.zero, i.size, i.bytes)) = some (some (.agg #[.int .i64 0, .int .i64 0]), 2, 16) by kernel_rfl)
  exact ⟨Try.underlying48, i, _, hi, h0, h1, h2, rfl, by omega⟩
theorem scored_asserted (v : Value) (w : World) : (Instr.typeAssert (.iface 52 v) 20 52 false).run Try.prog w = .ok v w := by kernel_rfl
theorem scored_iface (x : Value) (w : World) : (Instr.makeInterface 52 x).run Try.prog w = .ok (.iface 52 x) w := run_makeInterface w 52 x (by kernel_rfl)

set_option maxRecDepth 100000 in
set_option maxHeartbeats 2000000 in
theorem heapPush0_st {w0 w : World} {rs : List Res} (p : Int) (g : Nat) (v : Value) (l : List Int) (x : Int) (h : St w0 w (box g #[v] 48 :: row v 52 2 l.length (hcells p l) :: rs)) (hm : l.length ≤ 1000) :
    Calls Try.prog 57 #[.pointer (some ⟨g, 0, none⟩), .iface 52 (.agg #[.int .i64 x, .int .i64 (scoreP p x)])] w fun e w' => ∃ v', e = .returned (.tuple #[]) ∧ St w0 w' (box g #[v'] 48 :: row v' 52 2 (l ++ [x]).length (hcells p (l ++ [x])) :: rs) := by
  have E8 : hcells p l ++ [Value.int .i64 x, .int .i64 (scoreP p x)] = hcells p (l ++ [x]) := by rw [hcells_append]; rfl
  generalize scoreP p x = sx at *
  have AS := scored_asserted (.agg #[.int .i64 x, .int .i64 sx])
  go_enter Try.func57, Try.ntmps57
  go_wp2_with fail
  have k0 := cell_of_heap (o := 0) h.boxAt
  simp at k0
  obtain ⟨S, hS⟩ := Mix.named (fun w' => w'.cell? ⟨g, 0, none⟩ = some v)
  have HS := Lib.hid hS
  have e0 := Mix.held_cell (fun w h => (hS w).1 h)
  clear hS
  have SO := Lib.hid (fun W R (s : St w0 W (box g #[v] 48 :: R)) => by
    have a0 := cell_of_heap (o := 0) s.boxAt
    simp at a0
    exact (HS.out W).2 a0)
  have s2 := h.drew
  refine Mix.start S 9 (by kernel_rfl) ?_
  refine Mix.take [0, 1, 2, 3, 4] 5 (by kernel_rfl) (by kernel_rfl) (by kernel_rfl) (by intro c a a' w e h; exact ⟨e.symm.trans h.1, h.2⟩) (SO.out _ _ s2) ?_
  intro hne
  simp only [Mix.pickOps, List.filterMap_cons, List.filterMap_nil, List.getElem?_toArray, List.getElem?_cons_zero, List.getElem?_cons_succ]
  repeat (refine Mix.cons_form ?_; go_big_quiet_step (fail))
  refine wpQuiet_nil ?_
  clear hne
  refine Mix.step (i := 5) (by kernel_rfl) rfl rfl ?_
  go_simp
  refine ⟨SO.out _ _ s2, ?_⟩
  refine Mix.step (i := 6) (by kernel_rfl) rfl rfl ?_
  have s3 := s2.alloc (.cells #[.int .i64 x, .int .i64 sx] 52)
  go_simp
  refine ⟨SO.out _ _ s3.drop, ?_⟩
  refine Mix.step (i := 7) (by kernel_rfl) rfl rfl ?_
  have o4 := s3.at2.own
  have lR := s3.at2.size
  refine wp_app elem_scored _ _ (by rfl) w0.heap.size v l.length (hcells p l) (by rfl) w.heap.size 1 1 (by rfl) #[.int .i64 x, .int .i64 sx] 52 (0, 0) (by rfl) (by simp [Value.oneCell']) (by omega) (by omega) (by omega) (heap_alloc_new w.drew _) o4 (by simp at lR ⊢; omega) ?_
  intro gg cap3 w7 hown hgrow hat hl
  have s7 := ((s3.at2.app (grown_refl _ _) hown hgrow hat hl).to2.drop)
  refine ⟨.inr (SO.out _ _ s7), ?_⟩
  go_simp
  refine Mix.take [8] 1 (by kernel_rfl) (by kernel_rfl) (by kernel_rfl) (by intro c a a' w e h; exact ⟨e.symm.trans h.1, h.2⟩) (SO.out _ _ s7) ?_
  intro hne
  simp only [Mix.pickOps, List.filterMap_cons, List.filterMap_nil, List.getElem?_toArray, List.getElem?_cons_zero, List.getElem?_cons_succ]
  repeat (refine Mix.cons_form ?_; go_big_quiet_step (fail))
  refine wpQuiet_nil ?_
  clear hne
  refine Mix.step (i := 9) (by kernel_rfl) rfl rfl ?_
  obtain ⟨d7, f7⟩ := s7.cells
  go_simp
  refine Mix.done (by kernel_rfl) ?_
  have s8 := s7.set 0 (.slice (some ⟨gg, 0, none⟩) (l.length + 1) cap3)
  rw [show (#[Value.int .i64 x, Value.int .i64 sx] : Array Value).toList = [Value.int .i64 x, .int .i64 sx] from rfl, E8] at s8
  have FIN := Lib.hid s8
  clear hown hgrow hat hl o4 s3 s7 s8 s2 k0 h E8
  go_wp2_with fail
  exact ⟨rfl, .tuple #[], by simp [results, Try.results57, go_sem], _, rfl, by simpa using FIN.out⟩

set_option maxHeartbeats 2000000 in
theorem heapPop0_st {w0 w : World} {rs : List Res} (p : Int) (g : Nat) (a : Option Addr) (cap n : Nat) (l : List Int) (hn : l.length = n + 1) (hl : n ≤ 1000) (h : St w0 w (box g #[.slice a (n + 1) cap] 48 :: row (.slice a (n + 1) cap) 52 2 (n + 1) (hcells p l) :: rs)) :
    Calls Try.prog 56 #[.pointer (some ⟨g, 0, none⟩)] w fun e w' => e = .returned (.iface 52 (.agg #[.int .i64 (hat l n), .int .i64 (scoreP p (hat l n))])) ∧ St w0 w' (box g #[.slice a n cap] 48 :: row (.slice a n cap) 52 2 n (hcells p (l.take n)) :: rs) := by
  obtain ⟨gb, c', e1, _⟩ := h.drop.own.form (by omega)
  cases e1
  have hlen := hcells_len p l
  obtain ⟨n0, n1⟩ := hcells_at p l n (by omega)
  have d0 := h.drop.own.cellAt (n * 2) (by omega)
  have d1 := h.drop.own.cellAt (n * 2 + 1) (by omega)
  have f := fun j => h.drop.own.frozenAt j
  rw [n0] at d0
  rw [n1] at d1
  have hlg := h.drop.own.lt gb rfl
  have hcp := own_cap h.drop.own
  obtain ⟨k1, _⟩ := h.cells
  have l1 := h.lt.2
  have MI := scored_iface
  generalize scoreP p (hat l n) = sx at *
  generalize hat l n = x at *
  have f2 := frozen_of_heap (o := 0) h.boxAt
  have s1 := h.set 0 (.slice (some ⟨gb, 0, none⟩) n cap)
  have s2 := (s1.alloc (.cells #[.int .i64 x, .int .i64 sx] 52)).drop
  have s5 := s2.at1.rowTake n (by omega)
  rw [hcells_take] at s5
  have FIN := Lib.hid s5.at1
  clear s1 s2 s5 n0 n1 hlen hn h
  go_enter Try.func56, Try.ntmps56
  go_wp2_with fail
  exact bodyPost_ret (v := .iface 52 (.agg #[.int .i64 x, .int .i64 sx])) (by simp [results, Try.results56, go_sem]) rfl ⟨rfl, by simpa using FIN.out⟩

end Go.Proofs.Ytebklbncfcdkmaa
