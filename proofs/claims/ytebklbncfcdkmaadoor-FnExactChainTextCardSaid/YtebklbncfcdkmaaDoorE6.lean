
/-
  The walks of the laws' own functions on nodes: size, copy, equal, mark. No statement is proved here.
-/
import Derived.Test.YtebklbncfcdkmaaDoorE3
namespace Go.Proofs.YtebklbncfcdkmaaDoor
open Go.RowKit

theorem szNode_yes (nid done : Int) (a : Option Addr) (n cap : Nat) (left : Int) (w : World) (h : (n : Int) ≤ left) (hl : left ≤ 1048576) :
    Calls Tryd.prog 74 #[.agg #[.int .i64 nid, .slice a n cap, .int .i64 done], .int .i64 left] w fun e w' => e = .returned (.int .i64 (left - n)) ∧ Below w.heap.size w w' := by
  have h1 : 0 ≤ left - (n : Int) := by omega
  go_enter Tryd.func74, Tryd.ntmps74
  go_wp2_with fail
  refine (szUpdateS_yes _ _ _ _ _ h hl).mono ?_
  rintro e w1 ⟨rfl, rfl⟩
  go_wp2_with fail
  go_ret
  exact ⟨rfl, (Below.refl _ _).alloc (Nat.le_refl _) _⟩
theorem szNode_no (nid done : Int) (a : Option Addr) (n cap : Nat) (left : Int) (w : World) (h : left < (n : Int)) (h0 : 0 ≤ left) (hl : left ≤ 1048576) (hn : n ≤ 9223372036854775807) :
    Calls Tryd.prog 74 #[.agg #[.int .i64 nid, .slice a n cap, .int .i64 done], .int .i64 left] w fun e w' => e = .returned (.int .i64 (-1)) ∧ Below w.heap.size w w' := by
  go_enter Tryd.func74, Tryd.ntmps74
  go_wp2_with fail
  refine (szUpdateS_no _ _ _ _ _ h h0 hl hn).mono ?_
  rintro e w1 ⟨rfl, rfl⟩
  go_wp2_with fail
  go_ret
  exact ⟨rfl, (Below.refl _ _).alloc (Nat.le_refl _) _⟩

/-- What a function that makes a node hands back. -/
def MadeNode (w : World) (nid : Int) (us : List Upd) (done : Int) (e : Ending) (w' : World) : Prop :=
  ∃ (a : Option Addr) (cap : Nat), e = .returned (.agg #[.int .i64 nid, .slice a us.length cap, .int .i64 done]) ∧ w'.ownsRow w.heap.size 25 2 (.slice a us.length cap) us.length (ucells us) ∧ Below w.heap.size w w'

set_option maxHeartbeats 1000000 in
theorem toNode_calls (nid done : Int) (a : Option Addr) (cap : Nat) (us : List Upd) (w : World) (hm : us.length ≤ 2097152) (hx : UpdsAt w a us) :
    Calls Tryd.prog 75 #[.agg #[.int .i64 nid, .slice a us.length cap, .int .i64 done]] w (MadeNode w nid us done) := by
  have s1 := (((St.start w).alloc (.cells #[.int .i64 nid, .slice a us.length cap, .int .i64 done] 103)).alloc (.cells #[.int .i64 0, .slice none 0 0, .int .i64 0] 44)).alloc (.cells #[.int .i64 nid, .slice none 0 0, .int .i64 0] 44)
  simp only [World.size_alloc] at s1
  go_enter Tryd.func75, Tryd.ntmps75
  go_wp2_with fail
  refine (toUpdateS_calls _ _ _ _ hm (hx.below s1.below)).mono ?_
  rintro e w1 ⟨b, capb, rfl, ho, hb⟩
  have s2 := (s1.fresh hb ho (Nat.le_refl _)).at1
  obtain ⟨c2, f2⟩ := s2.cells
  obtain ⟨d2, g2⟩ := s2.at2.cells
  obtain ⟨e2, _⟩ := s2.at3.cells
  have n2 := (s2.at2.at1).ne
  have n2' := (s2.at2).ne
  have n3 := (s2.at3.at1).ne
  have n3' := (s2.at3).ne
  have s3 := ((s2.set 1 (.slice b us.length capb)).set 2 (.int .i64 done)).at2
  have s4 := (((s3.set 0 (.int .i64 nid)).set 1 (.slice b us.length capb)).set 2 (.int .i64 done)).at2
  have FIN : Hid (MadeNode w nid us done (.returned (.agg #[.int .i64 nid, .slice b us.length capb, .int .i64 done])) (((((w1.setCell ⟨w.heap.size + 1 + 1, 1, none⟩ (.slice b us.length capb)).setCell ⟨w.heap.size + 1 + 1, 2, none⟩ (.int .i64 done)).setCell ⟨w.heap.size + 1, 0, none⟩ (.int .i64 nid)).setCell ⟨w.heap.size + 1, 1, none⟩ (.slice b us.length capb)).setCell ⟨w.heap.size + 1, 2, none⟩ (.int .i64 done))) :=
    Lib.hid ⟨b, capb, rfl, s4.own, s4.below⟩
  clear s1 s2 s3 s4 ho hb
  go_wp2_with fail
  exact bodyPost_ret (v := .agg #[.int .i64 nid, .slice b us.length capb, .int .i64 done]) (by simp [results, Tryd.results75, go_sem, d2]) rfl FIN.out

theorem eqNode_eq (a a' : Option Addr) (cap cap' : Nat) (nid done : Int) (us : List Upd) (w : World) (hm : us.length ≤ 1099511627776) (hx : UpdsAt w a us) (hy : UpdsAt w a' us) :
    Calls Tryd.prog 76 #[.agg #[.int .i64 nid, .slice a us.length cap, .int .i64 done], .agg #[.int .i64 nid, .slice a' us.length cap', .int .i64 done]] w fun e w' => e = .returned (.bool true) ∧ Below w.heap.size w w' := by
  have s0 := ((St.start w).alloc (.cells #[.int .i64 nid, .slice a us.length cap, .int .i64 done] 44)).alloc (.cells #[.int .i64 nid, .slice a' us.length cap', .int .i64 done] 44)
  simp only [World.size_alloc] at s0
  go_enter Tryd.func76, Tryd.ntmps76
  go_wp2_with fail
  refine (eqUpdateS_eq _ _ _ _ us _ hm (hx.below s0.below) (hy.below s0.below)).mono ?_
  rintro e w1 ⟨rfl, hb⟩
  have s1 := s0.call hb
  obtain ⟨c1, _⟩ := s1.cells
  obtain ⟨d1, _⟩ := s1.at1.cells
  go_wp2_with fail
  go_ret
  exact ⟨rfl, s1.below⟩

end Go.Proofs.YtebklbncfcdkmaaDoor
