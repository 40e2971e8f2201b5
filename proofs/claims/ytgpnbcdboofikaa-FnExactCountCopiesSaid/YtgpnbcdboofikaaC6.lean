
/-
  The walks of the stack of nodes. No statement is proved here.
-/
import Derived.Test.YtgpnbcdboofikaaC4
import Derived.Test.YtgpnbcdboofikaaMx
import Derived.Test.YtgpnbcdboofikaaOc
import Derived.Test.YtgpnbcdboofikaaJn
namespace Go.Proofs.Ytgpnbcdboofikaa
open Go.RowKit

theorem elem_node : Elem Try.prog 23 32 3 40 := by
  obtain ⟨i, hi, h0, h1, h2⟩ := info_parts (show (Try.prog.info? 32).map (fun i => (i.zero, i.size, i.bytes)) = some (some (.agg #[.int .i64 0, .slice none 0 0, .int .i64 0]), 3, 40) by kernel_rfl)
  exact ⟨Try.underlying23, i, _, hi, h0, h1, h2, rfl, by omega⟩

set_option maxRecDepth 100000 in
set_option maxHeartbeats 2000000 in
theorem push_st {w0 w : World} {rs : List Res} (g : Nat) (v : Value) (ns : List Nd) (n : Nd) (h : St w0 w (box g #[v] 63 :: row v 32 3 ns.length (ncells ns) :: rs)) (hm : ns.length ≤ 1000) :
    Calls Try.prog 40 #[.pointer (some ⟨g, 0, none⟩), .agg #[.int .i64 n.id, .slice n.a n.us.length n.cap, .int .i64 n.done]] w fun e w' => ∃ v', e = .returned (.tuple #[]) ∧ St w0 w' (box g #[v'] 63 :: row v' 32 3 (ns ++ [n]).length (ncells (ns ++ [n])) :: rs) := by
  obtain ⟨p, y, c, us, q⟩ := n
  dsimp only
  have s1 := (h.alloc (.cells #[.int .i64 p, .slice y us.length c, .int .i64 q] 32)).at1.under St.at1 (by simp [or_left_comm])
  go_enter Try.func40, Try.ntmps40
  go_wp2_with fail
  have k0 := cell_of_heap (o := 0) s1.boxAt
  have k1 := cell_of_heap (o := 0) s1.at2.boxAt
  have k2 := cell_of_heap (o := 1) s1.at2.boxAt
  have k3 := cell_of_heap (o := 2) s1.at2.boxAt
  simp at k0 k1 k2 k3
  obtain ⟨S, hS⟩ := Mix.named (fun w' => w'.cell? ⟨g, 0, none⟩ = some v ∧ w'.cell? ⟨w.heap.size, 0, none⟩ = some (.int .i64 p) ∧ w'.cell? ⟨w.heap.size, 1, none⟩ = some (.slice y us.length c) ∧ w'.cell? ⟨w.heap.size, 2, none⟩ = some (.int .i64 q))
  have HS := Lib.hid hS
  have e0 := Mix.held_cell (fun w h => ((hS w).1 h).1)
  have e1 := Mix.held_cell (fun w h => ((hS w).1 h).2.1)
  have e2 := Mix.held_cell (fun w h => ((hS w).1 h).2.2.1)
  have e3 := Mix.held_cell (fun w h => ((hS w).1 h).2.2.2)
  clear hS
  have SO := Lib.hid (fun W R (s : St w0 W (box g #[v] 63 :: boxo w.heap.size (.cells #[.int .i64 p, .slice y us.length c, .int .i64 q] 32 (0, 0)) :: R)) => by
    have a0 := cell_of_heap (o := 0) s.boxAt
    have a1 := cell_of_heap (o := 0) s.at1.boxAt
    have a2 := cell_of_heap (o := 1) s.at1.boxAt
    have a3 := cell_of_heap (o := 2) s.at1.boxAt
    simp at a0 a1 a2 a3
    exact (HS.out W).2 ⟨a0, a1, a2, a3⟩)
  have s2 := s1.drew
  generalize w.alloc (.cells #[.int .i64 p, .slice y us.length c, .int .i64 q] 32 (0, 0)) = w1 at *
  generalize w.heap.size = B at *
  refine Mix.start S 10 (by kernel_rfl) ?_
  refine Mix.take [0, 1, 2, 3, 4, 5] 5 (by kernel_rfl) (by kernel_rfl) (by kernel_rfl) (by intro c a a' w e h; exact ⟨e.symm.trans h.1, h.2⟩) (SO.out _ _ (s2.under St.at1 (by simp [or_left_comm]))) ?_
  intro hne
  simp only [Mix.pickOps, List.filterMap_cons, List.filterMap_nil, List.getElem?_toArray, List.getElem?_cons_zero, List.getElem?_cons_succ]
  repeat (refine Mix.cons_form ?_; go_big_quiet_step (fail))
  refine wpQuiet_nil ?_
  clear hne
  refine Mix.step (i := 6) (by kernel_rfl) rfl rfl ?_
  have s3 := s2.alloc (.cells #[.int .i64 p, .slice y us.length c, .int .i64 q] 32)
  go_simp
  refine ⟨SO.out _ _ (s3.drop.under St.at1 (by simp [or_left_comm])), ?_⟩
  refine Mix.step (i := 7) (by kernel_rfl) rfl rfl ?_
  have o4 := s3.at2.own
  have lR := s3.at2.size
  refine wp_app elem_node _ _ (by rfl) w0.heap.size v ns.length (ncells ns) (by rfl) w1.heap.size 1 1 (by rfl) #[.int .i64 p, .slice y us.length c, .int .i64 q] 32 (0, 0) (by rfl) (by simp [Value.oneCell']) (by omega) (by omega) (by omega) (heap_alloc_new w1.drew _) o4 (by simp at lR ⊢; omega) ?_
  intro gg cap3 w7 hown hgrow hat hl
  have s7 := ((s3.at2.app (grown_refl _ _) hown hgrow hat hl).to2.drop)
  refine ⟨.inr (SO.out _ _ (s7.under St.at1 (by simp [or_left_comm]))), ?_⟩
  go_simp
  refine Mix.take [8, 9] 1 (by kernel_rfl) (by kernel_rfl) (by kernel_rfl) (by intro c a a' w e h; exact ⟨e.symm.trans h.1, h.2⟩) (SO.out _ _ (s7.under St.at1 (by simp [or_left_comm]))) ?_
  intro hne
  simp only [Mix.pickOps, List.filterMap_cons, List.filterMap_nil, List.getElem?_toArray, List.getElem?_cons_zero, List.getElem?_cons_succ]
  repeat (refine Mix.cons_form ?_; go_big_quiet_step (fail))
  refine wpQuiet_nil ?_
  clear hne
  refine Mix.step (i := 10) (by kernel_rfl) rfl rfl ?_
  obtain ⟨d7, f7⟩ := s7.cells
  go_simp
  refine Mix.done (by kernel_rfl) ?_
  have s8 := s7.set 0 (.slice (some ⟨gg, 0, none⟩) (ns.length + 1) cap3)
  have e8 : ncells ns ++ (#[Value.int .i64 p, Value.slice y us.length c, Value.int .i64 q] : Array Value).toList = ncells (ns ++ [⟨p, y, c, us, q⟩]) := by rw [ncells_append]; rfl
  rw [e8] at s8
  have FIN := Lib.hid ((s8.under St.at1 (by simp [or_left_comm])).at1.drop)
  clear hown hgrow hat hl o4 s3 s7 e8 s8 s1 s2 k0 k1 k2 k3 h
  go_wp2_with fail
  exact ⟨rfl, .tuple #[], by simp [results, Try.results40, go_sem], _, rfl, by simpa using FIN.out⟩

theorem take_take_len {α : Type} (l : List α) (a b : Nat) (h : a ≤ b) : (l.take b).take a = l.take a := by rw [List.take_take, Nat.min_eq_left h]
/-- A row without its last elements. -/
theorem St.rowTake {w0 w : World} {rs : List Res} {a : Option Addr} {n cap size : Nat} {e : TypeId} {xs : List Value} (h : St w0 w (row (.slice a n cap) e size n xs :: rs)) (m : Nat) (hm : m ≤ n) : St w0 w (row (.slice a m cap) e size m (xs.take (m * size)) :: rs) := by
  refine h.turn (grown_refl w _) ?_ (fun b hb => .inl ?_) (fun b hb => ?_)
  · have ho := h.own
    refine row_own (base := w0.heap.size) ⟨?_, ?_⟩
    · rw [List.length_take, ho.1]; exact Nat.min_eq_left (Nat.mul_le_mul_right _ hm)
    · rcases ho.2 with ⟨h1, h2⟩ | ⟨g, cap', cur, h1, h2, h3, h4, h5, h6, h7⟩
      · cases h1
        exact .inl ⟨by rw [show m = 0 by omega], by omega⟩
      · cases h1
        refine .inr ⟨g, _, cur, rfl, h2, h3, by omega, h5, h6, ?_⟩
        rw [← h7, List.take_take, Nat.min_eq_left (Nat.mul_le_mul_right _ hm)]
  · cases a <;> exact hb
  · have := h.own.lt b (by cases a <;> exact hb)
    exact this.2

set_option maxHeartbeats 2000000 in
theorem pop_none {w0 w : World} {rs : List Res} (g : Nat) (a : Option Addr) (cap : Nat) (h : St w0 w (box g #[.slice a 0 cap] 63 :: rs)) :
    Calls Try.prog 41 #[.pointer (some ⟨g, 0, none⟩)] w fun e w' => e = .returned (.tuple #[.agg #[.int .i64 0, .slice none 0 0, .int .i64 0], .bool false]) ∧ St w0 w' (box g #[.slice a 0 cap] 63 :: rs) := by
  have s1 := (h.alloc (.cells #[.int .i64 0, .slice none 0 0, .int .i64 0] 32))
  obtain ⟨c1, f1⟩ := s1.at1.cells
  have l1 := h.lt.2
  clear h
  go_enter Try.func41, Try.ntmps41
  go_wp2_with fail
  exact bodyPost_ret (v := .tuple #[.agg #[.int .i64 0, .slice none 0 0, .int .i64 0], .bool false]) (by simp [results, Try.results41, go_sem]) rfl ⟨rfl, s1.drop⟩

set_option maxHeartbeats 2000000 in
theorem pop_some {w0 w : World} {rs : List Res} (g : Nat) (a : Option Addr) (cap m : Nat) (ns : List Nd) (hm : m < ns.length) (hl : ns.length ≤ 1000) (h : St w0 w (box g #[.slice a (m + 1) cap] 63 :: row (.slice a (m + 1) cap) 32 3 (m + 1) (ncells (ns.take (m + 1))) :: rs)) :
    Calls Try.prog 41 #[.pointer (some ⟨g, 0, none⟩)] w fun e w' => e = .returned (.tuple #[nodeV (nd ns m), .bool true]) ∧ St w0 w' (box g #[.slice a m cap] 63 :: row (.slice a m cap) 32 3 m (ncells (ns.take m)) :: rs) := by
  obtain ⟨gb, c', e1, _⟩ := h.drop.own.form (by omega)
  cases e1
  have hlt : m < (ns.take (m + 1)).length := by simp; omega
  obtain ⟨n0, n1, n2⟩ := ncells_at (ns.take (m + 1)) m hlt
  have hlen : (ncells (ns.take (m + 1))).length = (m + 1) * 3 := by rw [ncells_len]; simp; omega
  have d0 := h.drop.own.cellAt (m * 3) (by omega)
  have d1 := h.drop.own.cellAt (m * 3 + 1) (by omega)
  have d2 := h.drop.own.cellAt (m * 3 + 2) (by omega)
  have f := fun j => h.drop.own.frozenAt j
  rw [n0, nd_take (by omega)] at d0
  rw [n1, nd_take (by omega)] at d1
  rw [n2, nd_take (by omega)] at d2
  have TT : (ncells (ns.take (m + 1))).take (m * 3) = ncells (ns.take m) := by rw [ncells_take, take_take_len _ _ _ (by omega)]
  have hlg := h.drop.own.lt gb rfl
  have hcp := own_cap h.drop.own
  obtain ⟨k1, _⟩ := h.cells
  have l1 := h.lt.2
  unfold nodeV
  generalize (nd ns m).id = p at *
  generalize (nd ns m).done = q at *
  generalize (nd ns m).us.length = l at *
  generalize (nd ns m).cap = c at *
  generalize (nd ns m).a = y at *
  have f2 := frozen_of_heap (o := 0) h.boxAt
  have s1 := h.set 0 (.slice (some ⟨gb, 0, none⟩) m cap)
  have s2 := (s1.alloc (.cells #[.int .i64 p, .slice y l c, .int .i64 q] 32)).drop
  have s3 := (s2.alloc (.cells #[.int .i64 p, .slice y l c, .int .i64 q] 32)).drop
  have s5 := s3.at1.rowTake m (by omega)
  rw [TT] at s5
  have FIN := Lib.hid s5.at1
  clear s1 s2 s3 s5 TT n0 n1 n2 hlen hlt h
  go_enter Try.func41, Try.ntmps41
  go_wp2_with fail
  exact bodyPost_ret (v := .tuple #[.agg #[.int .i64 p, .slice y l c, .int .i64 q], .bool true]) (by simp [results, Try.results41, go_sem]) rfl ⟨rfl, FIN.out⟩

end Go.Proofs.Ytgpnbcdboofikaa
