
/-
  The walks of the functions that draw a chain for a law. No statement is proved here.
-/
import Derived.Test.YtebklbncfcdkmaaDoorC10
import Derived.Test.YtebklbncfcdkmaaDoorOc
namespace Go.Proofs.YtebklbncfcdkmaaDoor
open Go.RowKit

/-- A chain that was drawn. -/
def DrawnChain (w : World) (e : Ending) (w' : World) : Prop :=
  ∃ (view : Int) (a : Option Addr) (cap : Nat) (ns : List Nd), e = .returned (.agg #[.int .i64 view, .slice a ns.length cap]) ∧ (1 ≤ ns.length ∧ ns.length ≤ 5 ∧ ns.length ≤ cap ∧ Short ns 13) ∧ NodesAt w' a ns ∧ Below w.heap.size w w'
theorem nodes_of {w0 w : World} {rs : List Res} {a : Option Addr} {cap : Nat} {ns : List Nd} (h : St w0 w (row (.slice a ns.length cap) 44 3 ns.length (ncells ns) :: rs)) (hs : ∀ r ∈ nds ns, r ∈ rs) : NodesAt w a ns :=
  ⟨own_cellsR h.own, nds_logs h.drop hs⟩

set_option maxHeartbeats 1000000 in
theorem drawChainText_calls (a : Option Addr) (n cap : Nat) (w : World) (hc : n ≤ cap) (hm : cap ≤ maxLen) (hb : BytesAt w a n) :
    Calls Tryd.prog 23 #[.slice a n cap] w (DrawnChain w) := by
  have s0 := (St.start w).alloc (.cells #[.int .i64 0, .slice none 0 0] 40)
  go_enter Tryd.func23, Tryd.ntmps23
  go_wp2_with fail
  refine (l6Open_st a n cap s0 hc hm hb).mono ?_
  rintro e w1 ⟨b, rfl, s1⟩
  go_wp2_with fail
  refine (l91Chain_st b 0 s1 (by omega)).mono ?_
  rintro e w2 ⟨view, v, ns, rfl, h1, h2, h3, s2⟩
  obtain ⟨a', cap', rfl, _⟩ := own_cells s2.own
  have s3 : St w w2 (box w.heap.size #[.int .i64 0, .slice none 0 0] 40 :: row (.slice a' ns.length cap') 44 3 ns.length (ncells ns) :: rd w b 200 :: (nds ns ++ [])) := s2.perm (List.perm_middle (l₁ := row (.slice a' ns.length cap') 44 3 ns.length (ncells ns) :: rd w b (0 + 200) :: nds ns))
  obtain ⟨c3, f3⟩ := s3.cells
  have s4 := (s3.set 0 (.int .i64 view)).set 1 (.slice a' ns.length cap')
  have q4 := s4.cells.1
  have FIN := Lib.hid (And.intro (nodes_of s4.drop (by intro r hr; simp [hr])) s4.below)
  have H := Lib.hid (show 1 ≤ ns.length ∧ ns.length ≤ 5 ∧ ns.length ≤ cap' ∧ Short ns 13 from ⟨h1, h2, own_cap s2.own, h3⟩)
  clear s0 s1 s2 s3 s4 h1 h2 h3
  go_wp2_with fail
  exact bodyPost_ret (v := .agg #[.int .i64 view, .slice a' ns.length cap']) (by simp [results, Tryd.results23, go_sem, q4]) rfl ⟨view, a', cap', ns, rfl, H.out, FIN.out.1, FIN.out.2⟩

/-- A chain and a number that were drawn. -/
def DrawnFail (w : World) (e : Ending) (w' : World) : Prop :=
  ∃ (view : Int) (a : Option Addr) (cap : Nat) (ns : List Nd) (fail : Int), e = .returned (.tuple #[.agg #[.int .i64 view, .slice a ns.length cap], .int .i64 fail]) ∧ (1 ≤ ns.length ∧ ns.length ≤ 5 ∧ ns.length ≤ cap ∧ Short ns 13 ∧ -1 ≤ fail ∧ fail ≤ 5) ∧ NodesAt w' a ns ∧ Below w.heap.size w w'

end Go.Proofs.YtebklbncfcdkmaaDoor
