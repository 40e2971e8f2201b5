/-
  The walks of the laws' own functions on bases: size, copy, equal, mark, held. No statement is proved here.
-/
import Derived.Test.YtgdbphgcpcihcaaE1
namespace Go.Proofs.Ytgdbphgcpcihcaa
open Go.RowKit

theorem szBase_yes (num : Int) (a : Option Addr) (n cap : Nat) (left : Int) (w : World) (h : (n : Int) ≤ left) (hl : left ≤ 1048576) :
    Calls Try.prog 25 #[.agg #[.int .i64 num, .slice a n cap], .int .i64 left] w fun e w' => e = .returned (.int .i64 (left - n)) ∧ Below w.heap.size w w' := by
  have h1 : 0 ≤ left - (n : Int) := by omega
  go_enter Try.func25, Try.ntmps25
  go_wp2_with fail
  refine (szIntS_yes _ _ _ _ _ h hl).mono ?_
  rintro e w1 ⟨rfl, rfl⟩
  go_wp2_with fail
  go_ret
  exact ⟨rfl, (Below.refl _ _).alloc (Nat.le_refl _) _⟩
theorem szBase_no (num : Int) (a : Option Addr) (n cap : Nat) (left : Int) (w : World) (h : left < (n : Int)) (h0 : 0 ≤ left) (hl : left ≤ 1048576) (hn : n ≤ 9223372036854775807) :
    Calls Try.prog 25 #[.agg #[.int .i64 num, .slice a n cap], .int .i64 left] w fun e w' => e = .returned (.int .i64 (-1)) ∧ Below w.heap.size w w' := by
  go_enter Try.func25, Try.ntmps25
  go_wp2_with fail
  refine (szIntS_no _ _ _ _ _ h h0 hl hn).mono ?_
  rintro e w1 ⟨rfl, rfl⟩
  go_wp2_with fail
  go_ret
  exact ⟨rfl, (Below.refl _ _).alloc (Nat.le_refl _) _⟩

/-- What a function that makes a base hands back. -/
def MadeBase (w : World) (num : Int) (xs : List Int) (e : Ending) (w' : World) : Prop :=
  ∃ (a : Option Addr) (cap : Nat), e = .returned (.agg #[.int .i64 num, .slice a xs.length cap]) ∧ w'.ownsRow w.heap.size 3 1 (.slice a xs.length cap) xs.length (xs.map (Value.int .i64)) ∧ Below w.heap.size w w'

set_option maxHeartbeats 1000000 in
theorem toBase_calls (num : Int) (a : Option Addr) (cap : Nat) (xs : List Int) (w : World) (hm : xs.length ≤ 2097152) (hx : IntsAt w a xs) :
    Calls Try.prog 27 #[.agg #[.int .i64 num, .slice a xs.length cap]] w (MadeBase w num xs) := by
  have s0 := ((St.start w).alloc (.cells #[.int .i64 num, .slice a xs.length cap] 43)).alloc (.cells #[.int .i64 0, .slice none 0 0] 29)
  have s1 := s0.alloc (.cells #[.int .i64 num, .slice none 0 0] 29)
  simp only [World.size_alloc] at s1
  go_enter Try.func27, Try.ntmps27
  go_wp2_with fail
  refine (toIntS_calls _ _ _ _ hm (hx.below s1.below)).mono ?_
  rintro e w1 ⟨b, capb, rfl, ho, hb⟩
  have s2 := (s1.fresh hb ho (Nat.le_refl _)).at1
  obtain ⟨c2, f2⟩ := s2.cells
  obtain ⟨d2, g2⟩ := s2.at2.cells
  have n2 := (s2.at2.at1).ne
  have n2' := (s2.at2).ne
  have s3 := (s2.set 1 (.slice b xs.length capb)).at2
  have s4 := ((s3.set 0 (.int .i64 num)).set 1 (.slice b xs.length capb)).at2
  have FIN : Hid (MadeBase w num xs (.returned (.agg #[.int .i64 num, .slice b xs.length capb])) (((w1.setCell ⟨w.heap.size + 1 + 1, 1, none⟩ (.slice b xs.length capb)).setCell ⟨w.heap.size + 1, 0, none⟩ (.int .i64 num)).setCell ⟨w.heap.size + 1, 1, none⟩ (.slice b xs.length capb))) :=
    Lib.hid ⟨b, capb, rfl, s4.own, s4.below⟩
  clear s0 s1 s2 s3 s4 ho hb
  go_wp2_with fail
  exact bodyPost_ret (v := .agg #[.int .i64 num, .slice b xs.length capb]) (by simp [results, Try.results27, go_sem, d2]) rfl FIN.out

theorem eqBase_eq (a a' : Option Addr) (cap cap' : Nat) (num : Int) (xs : List Int) (w : World) (hm : xs.length ≤ 1099511627776) (hx : IntsAt w a xs) (hy : IntsAt w a' xs) :
    Calls Try.prog 29 #[.agg #[.int .i64 num, .slice a xs.length cap], .agg #[.int .i64 num, .slice a' xs.length cap']] w fun e w' => e = .returned (.bool true) ∧ Below w.heap.size w w' := by
  have hB : Below w.heap.size w ((w.alloc (.cells #[.int .i64 num, .slice a xs.length cap] 29)).alloc (.cells #[.int .i64 num, .slice a' xs.length cap'] 29)) := ((Below.refl _ _).alloc (Nat.le_refl _) _).alloc (by simp) _
  go_enter Try.func29, Try.ntmps29
  go_wp2_with fail
  refine (eqIntS_calls _ _ _ _ xs xs _ hm hm (hx.below hB) (hy.below hB)).mono ?_
  rw [decide_eq_true (rfl : xs = xs)]
  rintro e w1 ⟨rfl, hb⟩
  go_wp2_with fail
  go_ret
  exact ⟨rfl, hB.trans (hb.mono (by simp; omega))⟩

theorem markBase_st {w0 w : World} {rs : List Res} (num : Int) (a : Option Addr) (n cap : Nat) (k : Int) (cs0 : List Value) (h : St w0 w (row (.slice a n cap) 3 1 n cs0 :: rs)) (hn : n ≤ 2097152) (hk0 : 0 ≤ k) (hk : k ≤ 1000000000) :
    Calls Try.prog 37 #[.agg #[.int .i64 num, .slice a n cap], .int .i64 k] w fun e w' => e = .returned (.int .i64 (k + n)) ∧ St w0 w' (row (.slice a n cap) 3 1 n ((seqInts k n).map (Value.int .i64)) :: rs) := by
  have s1 := (h.alloc (.cells #[.int .i64 num, .slice a n cap] 29)).drop
  go_enter Try.func37, Try.ntmps37
  go_wp2_with fail
  refine (markIntS_st _ _ _ _ _ s1 hn hk0 hk).mono ?_
  rintro e w1 ⟨rfl, s2⟩
  go_wp2_with fail
  go_ret
  exact ⟨rfl, s2⟩
theorem heldBase_calls (num : Int) (a : Option Addr) (n cap : Nat) (k : Int) (w : World) (h : CellsAt w a ((seqInts k n).map (Value.int .i64))) (hn : n ≤ 2097152) (hk0 : 0 ≤ k) (hk : k ≤ 1000000000) :
    Calls Try.prog 39 #[.agg #[.int .i64 num, .slice a n cap], .int .i64 k] w fun e w' => e = .returned (.int .i64 (k + n)) ∧ Below w.heap.size w w' := by
  have hB : Below w.heap.size w (w.alloc (.cells #[.int .i64 num, .slice a n cap] 29)) := (Below.refl _ _).alloc (Nat.le_refl _) _
  have h1 : 0 ≤ k + (n : Int) := by omega
  go_enter Try.func39, Try.ntmps39
  go_wp2_with fail
  refine (heldIntS_calls _ _ _ _ _ (h.below hB) hn hk0 hk).mono ?_
  rintro e w1 ⟨rfl, rfl⟩
  go_wp2_with fail
  go_ret
  exact ⟨rfl, hB⟩

end Go.Proofs.Ytgdbphgcpcihcaa
