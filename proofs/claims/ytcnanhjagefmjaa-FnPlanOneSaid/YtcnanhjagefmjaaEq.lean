
/-
  The walk of eqIntS. No statement is proved here.
-/
import Derived.Test.YtcnanhjagefmjaaSg
namespace Go.Proofs.Ytcnanhjagefmjaa
open Go.RowKit

set_option maxHeartbeats 1000000 in
theorem eqIntS_calls (a a' : Option Addr) (cap cap' : Nat) (xs ys : List Int) (w : World) (hm : xs.length ≤ 1099511627776) (hm' : ys.length ≤ 1099511627776) (hx : IntsAt w a xs) (hy : IntsAt w a' ys) :
    Calls Try.prog 18 #[.slice a xs.length cap, .slice a' ys.length cap'] w fun e w' => e = .returned (.bool (decide (xs = ys))) ∧ Below w.heap.size w w' := by
  by_cases hlen : xs.length = ys.length
  · have HL := Lib.hid hlen
    have hl1 : ((xs.length : Int) != (ys.length : Int)) = false := by rw [bne_eq_false_iff_eq]; omega
    have hl2 : ys.length ≤ xs.length := by omega
    have hl3 : xs.length ≤ ys.length := by omega
    clear hlen
    go_enter Try.func18, Try.ntmps18
    go_wp2_with fail
    go_loopw [5] (fun i wr => ∃ k n : Nat, k ≤ xs.length ∧ i = .int .i64 k ∧ xs.take k = ys.take k ∧ wr = w.drewN n) (fun i _ => xs.length - (intOf i).toNat)
    case atStart => exact ⟨0, 0, Nat.zero_le _, rfl, by simp, rfl⟩
    case round =>
      obtain ⟨k, n, hk, rfl, heq, rfl⟩ := hrel
      have HE := Lib.hid heq
      clear heq
      by_cases hlt : k < xs.length
      · have hlt' : k < ys.length := by omega
        rcases id hx with rfl | ⟨b, off, rfl, hc⟩
        · simp at hlt
        rcases id hy with rfl | ⟨b', off', rfl, hc'⟩
        · simp at hlt'
        have hcell := hc k hlt
        have hcell' := hc' k hlt'
        have i1 : (0 : Int) ≤ (k : Int) := by omega
        have i2 : (k : Int) < (xs.length : Int) := by omega
        have i3 : (k : Int) < (ys.length : Int) := by omega
        have ST := Lib.hid (fun h => take_eq_snoc HE.out hlt hlt' h)
        have NE := Lib.hid (fun h => ne_at hlt hlt' h)
        clear hc hc'
        simp only [List.getD, List.getElem?_eq_getElem hlt, List.getElem?_eq_getElem hlt', Option.getD_some] at hcell hcell'
        generalize hy0 : xs[k] = y0 at *
        generalize hy1 : ys[k] = y1 at *
        clear hy0 hy1
        cases h1 : (y0 != y1) with
        | true =>
          go_wp2_with fail
          go_quiet (fail)
          go_wp2_with fail
          go_ret
          exact ⟨by rw [decide_eq_false (NE.out (by simpa using h1))]; rfl, below_drewN (below_drewN (Below.refl _ _) _) _⟩
        | false =>
          go_wp2_with fail
          go_quiet (fail)
          go_wp2_with fail
          go_roundw
          case rel => exact ⟨k + 1, _, hlt, by go_num, ST.out (by simpa using h1), rfl⟩
          case measure => simp [intOf]; omega
      · go_wp2_with fail
        go_ret
        have := HE.out
        rw [List.take_of_length_le (by omega), List.take_of_length_le (by omega)] at this
        exact ⟨by rw [decide_eq_true this]; rfl, below_drewN (Below.refl _ _) _⟩
  · have hl1 : ((xs.length : Int) != (ys.length : Int)) = true := by rw [bne_iff_ne]; omega
    have hne : decide (xs = ys) = false := decide_eq_false (fun e => hlen (by rw [e]))
    rw [hne]
    clear hlen hne
    go_enter Try.func18, Try.ntmps18
    go_wp2_with fail
    go_ret
    exact ⟨rfl, Below.refl _ _⟩


end Go.Proofs.Ytcnanhjagefmjaa
