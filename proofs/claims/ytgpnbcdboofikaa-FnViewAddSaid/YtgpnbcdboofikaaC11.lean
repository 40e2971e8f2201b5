
/-
  The walks of the functions that draw a chain for a law. No statement is proved here.
-/
import Derived.Test.YtgpnbcdboofikaaC10
import Derived.Test.YtgpnbcdboofikaaOc
namespace Go.Proofs.Ytgpnbcdboofikaa
open Go.RowKit

/-- A chain that was drawn. -/
def DrawnChain (w : World) (e : Ending) (w' : World) : Prop :=
  ∃ (view : Int) (a : Option Addr) (cap : Nat) (ns : List Nd), e = .returned (.agg #[.int .i64 view, .slice a ns.length cap]) ∧ (1 ≤ ns.length ∧ ns.length ≤ 5 ∧ ns.length ≤ cap ∧ Short ns 13) ∧ NodesAt w' a ns ∧ Below w.heap.size w w'
theorem nodes_of {w0 w : World} {rs : List Res} {a : Option Addr} {cap : Nat} {ns : List Nd} (h : St w0 w (row (.slice a ns.length cap) 32 3 ns.length (ncells ns) :: rs)) (hs : ∀ r ∈ nds ns, r ∈ rs) : NodesAt w a ns :=
  ⟨own_cellsR h.own, nds_logs h.drop hs⟩

set_option maxHeartbeats 1000000 in
theorem drawCountCopies_calls (a : Option Addr) (n cap : Nat) (w : World) (hc : n ≤ cap) (hm : cap ≤ maxLen) (hb : BytesAt w a n) :
    Calls Try.prog 14 #[.slice a n cap] w (DrawnChain w) := by
  have s0 := (St.start w).alloc (.cells #[.int .i64 0, .slice none 0 0] 25)
  go_enter Try.func14, Try.ntmps14
  go_wp2_with fail
  refine (l6Open_st a n cap s0 hc hm hb).mono ?_
  rintro e w1 ⟨b, rfl, s1⟩
  go_wp2_with fail
  refine (l91Chain_st b 0 s1 (by omega)).mono ?_
  rintro e w2 ⟨view, v, ns, rfl, h1, h2, h3, s2⟩
  obtain ⟨a', cap', rfl, _⟩ := own_cells s2.own
  have s3 : St w w2 (box w.heap.size #[.int .i64 0, .slice none 0 0] 25 :: row (.slice a' ns.length cap') 32 3 ns.length (ncells ns) :: rd w b 200 :: (nds ns ++ [])) := s2.perm (List.perm_middle (l₁ := row (.slice a' ns.length cap') 32 3 ns.length (ncells ns) :: rd w b (0 + 200) :: nds ns))
  obtain ⟨c3, f3⟩ := s3.cells
  have s4 := (s3.set 0 (.int .i64 view)).set 1 (.slice a' ns.length cap')
  have q4 := s4.cells.1
  have FIN := Lib.hid (And.intro (nodes_of s4.drop (by intro r hr; simp [hr])) s4.below)
  have H := Lib.hid (show 1 ≤ ns.length ∧ ns.length ≤ 5 ∧ ns.length ≤ cap' ∧ Short ns 13 from ⟨h1, h2, own_cap s2.own, h3⟩)
  clear s0 s1 s2 s3 s4 h1 h2 h3
  go_wp2_with fail
  exact bodyPost_ret (v := .agg #[.int .i64 view, .slice a' ns.length cap']) (by simp [results, Try.results14, go_sem, q4]) rfl ⟨view, a', cap', ns, rfl, H.out, FIN.out.1, FIN.out.2⟩

set_option maxHeartbeats 1000000 in
theorem drawViewOf_calls (a : Option Addr) (n cap : Nat) (w : World) (hc : n ≤ cap) (hm : cap ≤ maxLen) (hb : BytesAt w a n) :
    Calls Try.prog 19 #[.slice a n cap] w (DrawnChain w) := by
  have s0 := (St.start w).alloc (.cells #[.int .i64 0, .slice none 0 0] 25)
  go_enter Try.func19, Try.ntmps19
  go_wp2_with fail
  refine (l6Open_st a n cap s0 hc hm hb).mono ?_
  rintro e w1 ⟨b, rfl, s1⟩
  go_wp2_with fail
  refine (l91Chain_st b 0 s1 (by omega)).mono ?_
  rintro e w2 ⟨view, v, ns, rfl, h1, h2, h3, s2⟩
  obtain ⟨a', cap', rfl, _⟩ := own_cells s2.own
  have s3 : St w w2 (box w.heap.size #[.int .i64 0, .slice none 0 0] 25 :: row (.slice a' ns.length cap') 32 3 ns.length (ncells ns) :: rd w b 200 :: (nds ns ++ [])) := s2.perm (List.perm_middle (l₁ := row (.slice a' ns.length cap') 32 3 ns.length (ncells ns) :: rd w b (0 + 200) :: nds ns))
  obtain ⟨c3, f3⟩ := s3.cells
  have s4 := (s3.set 0 (.int .i64 view)).set 1 (.slice a' ns.length cap')
  have q4 := s4.cells.1
  have FIN := Lib.hid (And.intro (nodes_of s4.drop (by intro r hr; simp [hr])) s4.below)
  have H := Lib.hid (show 1 ≤ ns.length ∧ ns.length ≤ 5 ∧ ns.length ≤ cap' ∧ Short ns 13 from ⟨h1, h2, own_cap s2.own, h3⟩)
  clear s0 s1 s2 s3 s4 h1 h2 h3
  go_wp2_with fail
  exact bodyPost_ret (v := .agg #[.int .i64 view, .slice a' ns.length cap']) (by simp [results, Try.results19, go_sem, q4]) rfl ⟨view, a', cap', ns, rfl, H.out, FIN.out.1, FIN.out.2⟩

/-- A chain and a number that were drawn. -/
def DrawnFail (w : World) (e : Ending) (w' : World) : Prop :=
  ∃ (view : Int) (a : Option Addr) (cap : Nat) (ns : List Nd) (fail : Int), e = .returned (.tuple #[.agg #[.int .i64 view, .slice a ns.length cap], .int .i64 fail]) ∧ (1 ≤ ns.length ∧ ns.length ≤ 5 ∧ ns.length ≤ cap ∧ Short ns 13 ∧ -1 ≤ fail ∧ fail ≤ 5) ∧ NodesAt w' a ns ∧ Below w.heap.size w w'

set_option maxRecDepth 100000 in
set_option maxHeartbeats 2000000 in
theorem drawCountSafe_calls (a : Option Addr) (n cap : Nat) (w : World) (hc : n ≤ cap) (hm : cap ≤ maxLen) (hb : BytesAt w a n) :
    Calls Try.prog 24 #[.slice a n cap] w (DrawnFail w) := by
  have s0 := (St.start w).alloc (.cells #[.int .i64 0, .slice none 0 0] 25)
  go_enter Try.func24, Try.ntmps24
  go_wp2_with fail
  refine (l6Open_st a n cap s0 hc hm hb).mono ?_
  rintro e w1 ⟨b, rfl, s1⟩
  go_wp2_with fail
  refine (l91Chain_st b 0 s1 (by omega)).mono ?_
  rintro e w2 ⟨view, v, ns, rfl, h1, h2, h3, s2⟩
  obtain ⟨a', cap', rfl, _⟩ := own_cells s2.own
  have hcp := own_cap s2.own
  have s3 : St w w2 (box w.heap.size #[.int .i64 0, .slice none 0 0] 25 :: row (.slice a' ns.length cap') 32 3 ns.length (ncells ns) :: rd w b 200 :: (nds ns ++ [])) := s2.perm (List.perm_middle (l₁ := row (.slice a' ns.length cap') 32 3 ns.length (ncells ns) :: rd w b (0 + 200) :: nds ns))
  have s4 := s3.alloc (.cells #[.int .i64 view, .slice a' ns.length cap'] 25)
  have HSH := Lib.hid h3
  clear s0 s1 s2 s3 h3 hb
  go_wp2_with fail
  generalize w2.alloc (.cells #[.int .i64 view, .slice a' ns.length cap'] 25 (0, 0)) = w3 at *
  generalize w2.heap.size = V at *
  obtain ⟨S, hS⟩ := Mix.named (fun w' => w'.cell? ⟨V, 0, none⟩ = some (.int .i64 view) ∧ w'.cell? ⟨V, 1, none⟩ = some (.slice a' ns.length cap'))
  have HS := Lib.hid hS
  have e0 := Mix.held_cell (fun w h => ((hS w).1 h).1)
  have e1 := Mix.held_cell (fun w h => ((hS w).1 h).2)
  clear hS
  have SO := Lib.hid (fun W rr (hr : box V #[.int .i64 view, .slice a' ns.length cap'] 25 ∈ rr) (s : St w W rr) => by
    have a0 := cell_of_heap (o := 0) (s.pull hr).boxAt
    have a1 := cell_of_heap (o := 1) (s.pull hr).boxAt
    simp at a0 a1
    exact (HS.out W).2 ⟨a0, a1⟩)
  have s5 := s4.drew
  refine Mix.start S 99 (by kernel_rfl) ?_
  refine Mix.take [0, 1, 2, 3, 4, 5, 7] 6 (by kernel_rfl) (by kernel_rfl) (by kernel_rfl) (by intro c a a' w e h; exact ⟨e.symm.trans h.1, h.2⟩) (SO.out _ _ (by simp) s5) ?_
  intro hne
  simp only [Mix.pickOps, List.filterMap_cons, List.filterMap_nil, List.getElem?_toArray, List.getElem?_cons_zero, List.getElem?_cons_succ]
  repeat (refine Mix.cons_form ?_; go_big_quiet_step (fail))
  refine wpQuiet_nil ?_
  clear hne
  refine Mix.step (i := 6) (by kernel_rfl) rfl rfl ?_
  go_simp
  refine (pick_st b 200 ((ns.length : Int) + 1) (s5.at3) (by omega) (by omega)).mono ?_
  rintro e w6 ⟨p, rfl, p0, p1, s6⟩
  have p2 := p1 (by omega)
  refine And.intro (SO.out _ _ (by simp) s6) ?_
  go_simp
  refine Mix.step (i := 8) (by kernel_rfl) rfl rfl ?_
  go_simp
  refine (pick_st b 201 20 s6 (by omega) (by omega)).mono ?_
  rintro e w7 ⟨q, rfl, q0, q1, s7⟩
  have q2 := q1 (by omega)
  refine And.intro (SO.out _ _ (by simp) s7) ?_
  go_simp
  clear s4 s5 s6 p1 q1
  refine Mix.take [9, 10] 2 (by kernel_rfl) (by kernel_rfl) (by kernel_rfl) (by intro c a a' w e h; exact ⟨e.symm.trans h.1, h.2⟩) (SO.out _ _ (by simp) s7) ?_
  intro hne
  simp only [Mix.pickOps, List.filterMap_cons, List.filterMap_nil, List.getElem?_toArray, List.getElem?_cons_zero, List.getElem?_cons_succ]
  repeat (refine Mix.cons_form ?_; go_big_quiet_step (fail))
  refine wpQuiet_nil ?_
  clear hne
  refine Mix.step (i := 11) (by kernel_rfl) rfl rfl ?_
  obtain ⟨c8, f8⟩ := s7.at2.cells
  have s9 := (s7.at2.set 0 (.int .i64 view)).set 1 (.slice a' ns.length cap')
  have q9 := s9.cells.1
  go_simp
  refine And.intro (SO.out _ _ (by simp) s9) ?_
  refine Mix.take [12] 0 (by kernel_rfl) (by kernel_rfl) (by kernel_rfl) (by intro c a a' w e h; exact ⟨e.symm.trans h.1, h.2⟩) (SO.out _ _ (by simp) s9) ?_
  intro hne
  simp only [Mix.pickOps, List.filterMap_cons, List.filterMap_nil, List.getElem?_toArray, List.getElem?_cons_zero, List.getElem?_cons_succ]
  repeat (refine Mix.cons_form ?_; go_big_quiet_step (fail))
  refine wpQuiet_nil ?_
  clear hne
  refine Mix.done (by kernel_rfl) ?_
  have FIN := Lib.hid (And.intro (nodes_of s9.drop.drop.drop (by intro r hr; simp [hr])) s9.below)
  clear s7 s9 c8 f8
  go_wp2_with fail
  exact bodyPost_ret (v := .tuple #[.agg #[.int .i64 view, .slice a' ns.length cap'], .int .i64 (p - q / 19)]) (by simp [results, Try.results24, go_sem, q9]) rfl ⟨view, a', cap', ns, _, rfl, ⟨h1, h2, hcp, HSH.out, by omega, by omega⟩, FIN.out.1, FIN.out.2⟩

end Go.Proofs.Ytgpnbcdboofikaa
