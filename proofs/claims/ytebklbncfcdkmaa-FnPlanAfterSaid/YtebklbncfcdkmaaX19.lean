
/-
  The walks of the laws' own functions on moves. No statement is proved here.
-/
import Derived.Test.YtebklbncfcdkmaaX18
import Derived.Test.YtebklbncfcdkmaaX13
import Derived.Test.YtebklbncfcdkmaaE1
namespace Go.Proofs.Ytebklbncfcdkmaa
open Go.RowKit

theorem CellsAt.move {w : World} {a : Option Addr} {ms : List Mv} (h : CellsAt w a (mcells ms)) (k : Nat) (hk : k < ms.length) :
    ∃ b off, a = some ⟨b, off, none⟩ ∧ w.cell? ⟨b, off + k * 3, none⟩ = some (.int .i64 ms[k].1) ∧ w.cell? ⟨b, off + k * 3 + 1, none⟩ = some (.int .i64 ms[k].2.1) ∧ w.cell? ⟨b, off + k * 3 + 2, none⟩ = some (.int .i64 ms[k].2.2) := by
  have hl := mcells_len ms
  rcases h with h | ⟨b, off, rfl, hc⟩
  · rw [h] at hl; simp at hl; omega
  · obtain ⟨h0, h1, h2⟩ := mcells_at ms k hk
    refine ⟨b, off, rfl, ?_, ?_, ?_⟩
    · rw [hc _ (by omega), h0]
    · rw [Nat.add_assoc, hc _ (by omega), h1]
    · rw [Nat.add_assoc, hc _ (by omega), h2]

set_option maxHeartbeats 1000000 in
theorem sameMoves_eq (a a' : Option Addr) (cap cap' : Nat) (ms : List Mv) (w : World) (hm : ms.length ≤ 1099511627776) (hx : CellsAt w a (mcells ms)) (hy : CellsAt w a' (mcells ms)) :
    Calls Try.prog 7 #[.slice a ms.length cap, .slice a' ms.length cap'] w fun e w' => e = .returned (.bool true) ∧ Below w.heap.size w w' := by
  go_enter Try.func7, Try.ntmps7
  go_wp2_with fail
  go_loopw [5] (fun i wr => ∃ k n : Nat, k ≤ ms.length ∧ i = .int .i64 k ∧ wr = w.drewN n) (fun i _ => ms.length - (intOf i).toNat)
  case atStart => exact ⟨0, 0, Nat.zero_le _, rfl, rfl⟩
  case round =>
    obtain ⟨k, n, hk, rfl, rfl⟩ := hrel
    by_cases hlt : k < ms.length
    · obtain ⟨b, off, rfl, c0, c1, c2⟩ := hx.move k hlt
      obtain ⟨b', off', rfl, d0, d1, d2⟩ := hy.move k hlt
      have i1 : (0 : Int) ≤ (k : Int) := by omega
      have i2 : (k : Int) < (ms.length : Int) := by omega
      generalize ms[k] = q at *
      go_wp2_with fail
      go_quiet (fail)
      go_wp2_with fail
      go_roundw
      case rel => exact ⟨k + 1, _, hlt, by go_num, rfl⟩
      case measure => simp [intOf]; omega
    · go_wp2_with fail
      go_ret
      exact ⟨rfl, below_drewN (Below.refl _ _) _⟩

theorem seq_set3 {cs : List Value} {k : Int} {j : Nat} (h : j * 3 + 2 < cs.length) (ht : cs.take (j * 3) = (seqInts k (j * 3)).map (Value.int .i64)) :
    (((cs.set (j * 3) (.int .i64 (k + (j * 3 : Nat)))).set (j * 3 + 1) (.int .i64 (k + (j * 3 + 1 : Nat)))).set (j * 3 + 2) (.int .i64 (k + (j * 3 + 2 : Nat)))).take ((j + 1) * 3) = (seqInts k ((j + 1) * 3)).map (Value.int .i64) := by
  have h1 := seq_set (k := k) (j := j * 3) (by omega) ht
  have h2 := seq_set (cs := cs.set (j * 3) (.int .i64 (k + (j * 3 : Nat)))) (k := k) (j := j * 3 + 1) (by simp; omega) h1
  have h3 := seq_set (cs := (cs.set (j * 3) (.int .i64 (k + (j * 3 : Nat)))).set (j * 3 + 1) (.int .i64 (k + (j * 3 + 1 : Nat)))) (k := k) (j := j * 3 + 2) (by simp; omega) h2
  rw [show (j + 1) * 3 = j * 3 + 2 + 1 by omega]
  exact h3

end Go.Proofs.Ytebklbncfcdkmaa
