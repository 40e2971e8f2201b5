
/-
  The walks of the laws' own functions on lists of ints: sameInts, eqIntS, hasInt. No statement is proved here.
-/
import Derived.Test.YtgpnbcdboofikaaSi
import Derived.Test.YtgpnbcdboofikaaEq
import Derived.Test.YtgpnbcdboofikaaHa
namespace Go.Proofs.Ytgpnbcdboofikaa
open Go.RowKit

set_option maxHeartbeats 1000000 in
theorem sameView_calls (a a' : Option Addr) (cap cap' : Nat) (num num' : Int) (xs ys : List Int) (w : World) (hm : xs.length ≤ 1099511627776) (hm' : ys.length ≤ 1099511627776) (hx : IntsAt w a xs) (hy : IntsAt w a' ys) :
    Calls Try.prog 22 #[.agg #[.int .i64 num, .slice a xs.length cap], .agg #[.int .i64 num', .slice a' ys.length cap']] w fun e w' => e = .returned (.bool (decide (num = num') && decide (xs = ys))) ∧ Below w.heap.size w w' := by
  have hB1 : Below w.heap.size w (w.alloc (.cells #[.int .i64 num, .slice a xs.length cap] 36)) := (Below.refl _ _).alloc (Nat.le_refl _) _
  have hB2 : Below w.heap.size w ((w.alloc (.cells #[.int .i64 num, .slice a xs.length cap] 36)).alloc (.cells #[.int .i64 num', .slice a' ys.length cap'] 36)) := hB1.alloc (by simp) _
  have hx2 := hx.below hB2
  have hy2 := hy.below hB2
  by_cases hn : num = num'
  · have h1 : (num == num') = true := by simpa using hn
    rw [decide_eq_true hn, Bool.true_and]
    clear hn
    go_enter Try.func22, Try.ntmps22
    go_wp2_with fail
    refine (sameInts_calls _ _ _ _ _ _ _ hm hm' hx2 hy2).mono ?_
    rintro e w1 ⟨rfl, hb⟩
    go_wp2_with fail
    go_ret
    exact ⟨rfl, hB2.trans (hb.mono (by simp; omega))⟩
  · have h1 : (num == num') = false := by simpa using hn
    rw [decide_eq_false hn, Bool.false_and]
    clear hn
    go_enter Try.func22, Try.ntmps22
    go_wp2_with fail
    go_ret
    exact ⟨rfl, hB2⟩

theorem sameView_eq (a a' : Option Addr) (cap cap' : Nat) (num : Int) (xs : List Int) (w : World) (hm : xs.length ≤ 1099511627776) (hx : IntsAt w a xs) (hy : IntsAt w a' xs) :
    Calls Try.prog 22 #[.agg #[.int .i64 num, .slice a xs.length cap], .agg #[.int .i64 num, .slice a' xs.length cap']] w fun e w' => e = .returned (.bool true) ∧ Below w.heap.size w w' := by
  refine (sameView_calls a a' cap cap' num num xs xs w hm hm hx hy).mono ?_
  rintro e w' ⟨rfl, hb⟩
  exact ⟨by simp, hb⟩

end Go.Proofs.Ytgpnbcdboofikaa
