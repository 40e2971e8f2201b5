
/-
  The walk of heldUpdateS. No statement is proved here.
-/
import Derived.Test.YtebklbncfcdkmaaDoorE3
namespace Go.Proofs.YtebklbncfcdkmaaDoor
open Go.RowKit

set_option maxHeartbeats 1000000 in
theorem heldUpdateS_calls (a : Option Addr) (n cap : Nat) (k : Int) (w : World) (h : CellsAt w a ((seqInts k (n * 2)).map (Value.int .i64))) (hn : n ≤ 2097152) (hk0 : 0 ≤ k) (hk : k ≤ 1000000000) :
    Calls Tryd.prog 34 #[.slice a n cap, .int .i64 k] w fun e w' => e = .returned (.int .i64 (k + 2 * n)) ∧ w = w' := by
  have H := Lib.hid h
  clear h
  go_enter Tryd.func34, Tryd.ntmps34
  go_wp2_with fail
  go_loop [1, 5] (fun kk i => ∃ j : Nat, j ≤ n ∧ i = .int .i64 j ∧ kk = .int .i64 (k + 2 * j)) (fun _ i => n - (intOf i).toNat)
  case atStart => exact ⟨0, Nat.zero_le _, rfl, by simp⟩
  case round =>
    obtain ⟨j, hj, rfl, rfl⟩ := hrel
    by_cases hlt : j < n
    · obtain ⟨g, off, rfl, hc, hd⟩ : ∃ g off, a = some ⟨g, off, none⟩ ∧ w.cell? ⟨g, off + j * 2, none⟩ = some (.int .i64 (k + 2 * j)) ∧ w.cell? ⟨g, off + j * 2 + 1, none⟩ = some (.int .i64 (k + 2 * j + 1)) := by
        rcases H.out with h | ⟨g, off, rfl, hc⟩
        · have := congrArg List.length h
          simp [seqInts_len] at this; omega
        · refine ⟨g, off, rfl, ?_, ?_⟩
          · rw [hc (j * 2) (by simp [seqInts_len]; omega), List.getElem?_map, seqInts_at _ _ _ (by omega)]
            simp; omega
          · rw [Nat.add_assoc, hc (j * 2 + 1) (by simp [seqInts_len]; omega), List.getElem?_map, seqInts_at _ _ _ (by omega)]
            simp; omega
      have i1 : (0 : Int) ≤ (j : Int) := by omega
      have i2 : (j : Int) < (n : Int) := by omega
      go_wp2_with fail
      go_round
      case rel => exact ⟨j + 1, hlt, by go_num, by go_num⟩
      case measure => simp [intOf]; omega
    · obtain rfl : j = n := by omega
      go_wp2_with fail
      go_ret
      exact ⟨rfl, rfl⟩

end Go.Proofs.YtebklbncfcdkmaaDoor
