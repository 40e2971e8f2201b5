
/-
  The walks of the laws' sameLog and sameBase on what is equal. No statement is proved here.
-/
import Derived.Test.YtebklbncfcdkmaaDoorSi
import Derived.Test.YtebklbncfcdkmaaDoorU1
namespace Go.Proofs.YtebklbncfcdkmaaDoor
open Go.RowKit

set_option maxHeartbeats 1000000 in
theorem sameLog_eq (a a' : Option Addr) (cap cap' : Nat) (us : List Upd) (w : World) (hm : us.length ≤ 1099511627776) (hx : UpdsAt w a us) (hy : UpdsAt w a' us) :
    Calls Tryd.prog 35 #[.slice a us.length cap, .slice a' us.length cap'] w fun e w' => e = .returned (.bool true) ∧ Below w.heap.size w w' := by
  go_enter Tryd.func35, Tryd.ntmps35
  go_wp2_with fail
  go_loopw [5] (fun i wr => ∃ k n : Nat, k ≤ us.length ∧ i = .int .i64 k ∧ wr = w.drewN n) (fun i _ => us.length - (intOf i).toNat)
  case atStart => exact ⟨0, 0, Nat.zero_le _, rfl, rfl⟩
  case round =>
    obtain ⟨k, n, hk, rfl, rfl⟩ := hrel
    by_cases hlt : k < us.length
    · obtain ⟨b, off, rfl, c0, c1⟩ := hx.cells k hlt
      obtain ⟨b', off', rfl, d0, d1⟩ := hy.cells k hlt
      have i1 : (0 : Int) ≤ (k : Int) := by omega
      have i2 : (k : Int) < (us.length : Int) := by omega
      generalize us[k].1 = p at *
      generalize us[k].2 = q at *
      go_wp2_with fail
      go_quiet (fail)
      go_wp2_with fail
      go_roundw
      case rel => exact ⟨k + 1, _, hlt, by go_num, rfl⟩
      case measure => simp [intOf]; omega
    · go_wp2_with fail
      go_ret
      exact ⟨rfl, below_drewN (Below.refl _ _) _⟩

end Go.Proofs.YtebklbncfcdkmaaDoor
