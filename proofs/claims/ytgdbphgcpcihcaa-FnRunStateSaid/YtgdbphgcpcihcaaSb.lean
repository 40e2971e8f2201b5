/-
  The walks of the laws' sameLog and sameBase on what is equal. No statement is proved here.
-/
import Derived.Test.YtgdbphgcpcihcaaSi
import Derived.Test.YtgdbphgcpcihcaaU1
namespace Go.Proofs.Ytgdbphgcpcihcaa
open Go.RowKit

set_option maxHeartbeats 1000000 in
theorem sameBase_eq (a a' : Option Addr) (cap cap' : Nat) (num : Int) (xs : List Int) (w : World) (hm : xs.length ≤ 1099511627776) (hx : IntsAt w a xs) (hy : IntsAt w a' xs) :
    Calls Try.prog 15 #[.agg #[.int .i64 num, .slice a xs.length cap], .agg #[.int .i64 num, .slice a' xs.length cap']] w fun e w' => e = .returned (.bool true) ∧ Below w.heap.size w w' := by
  have hB1 : Below w.heap.size w (w.alloc (.cells #[.int .i64 num, .slice a xs.length cap] 29)) := (Below.refl _ _).alloc (Nat.le_refl _) _
  have hB2 : Below w.heap.size w ((w.alloc (.cells #[.int .i64 num, .slice a xs.length cap] 29)).alloc (.cells #[.int .i64 num, .slice a' xs.length cap'] 29)) := hB1.alloc (by simp) _
  have hx2 := hx.below hB2
  have hy2 := hy.below hB2
  go_enter Try.func15, Try.ntmps15
  go_wp2_with fail
  refine (sameInts_calls _ _ _ _ _ _ _ hm hm hx2 hy2).mono ?_
  rw [decide_eq_true rfl]
  rintro e w1 ⟨rfl, hb⟩
  go_wp2_with fail
  go_ret
  exact ⟨rfl, hB2.trans (hb.mono (by simp; omega))⟩

set_option maxHeartbeats 1000000 in
theorem sameLog_eq (a a' : Option Addr) (cap cap' : Nat) (us : List Upd) (w : World) (hm : us.length ≤ 1099511627776) (hx : UpdsAt w a us) (hy : UpdsAt w a' us) :
    Calls Try.prog 14 #[.slice a us.length cap, .slice a' us.length cap'] w fun e w' => e = .returned (.bool true) ∧ Below w.heap.size w w' := by
  go_enter Try.func14, Try.ntmps14
  go_wp2_with fail
  go_loopw [5] (fun i wr => ∃ k n : Nat, k ≤ us.length ∧ i = .int .i64 k ∧ wr = w.drewN n) (fun i _ => us.length - (intOf i).toNat)
  case atStart => exact ⟨0, 0, Nat.zero_le _, rfl, rfl⟩
  case round =>
    obtain ⟨k, n, hk, rfl, rfl⟩ := hrel
    by_cases hlt : k < us.length
    · obtain ⟨b, off, rfl, c0, c1⟩ := hx.cells k hlt
      obtain ⟨b', off', rfl, d0, d1⟩ := hy.cells k hlt
      have i1 : (0 : Int) ≤ (k : Int) := by omega
      have i2 : (k : Int) < (us.length : Int) := by omega
      generalize us[k].1 = p at *
      generalize us[k].2 = q at *
      go_wp2_with fail
      go_quiet (fail)
      go_wp2_with fail
      go_roundw
      case rel => exact ⟨k + 1, _, hlt, by go_num, rfl⟩
      case measure => simp [intOf]; omega
    · go_wp2_with fail
      go_ret
      exact ⟨rfl, below_drewN (Below.refl _ _) _⟩

end Go.Proofs.Ytgdbphgcpcihcaa
