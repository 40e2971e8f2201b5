
/-
  The walks of the laws' own functions on slices of ints: size, copy, mark, held. No statement is proved here.
-/
import Derived.Test.YtgpnbcdboofikaaSt
import Derived.Test.YtgpnbcdboofikaaEq
import Derived.Test.YtgpnbcdboofikaaP5
import Derived.Laws.OwnMore
namespace Go.Proofs.Ytgpnbcdboofikaa
open Go.RowKit

theorem row_full {g n : Nat} {e : TypeId} {cs : List Value} {xs : List Int} {w0 w : World} {rs : List Res} (h : St w0 w (row (.slice (some ⟨g, 0, none⟩) n n) e 1 n cs :: rs)) (hx : xs.length = n) (ht : cs.take n = (xs.take n).map (Value.int .i64)) :
    St w0 w (row (.slice (some ⟨g, 0, none⟩) xs.length xs.length) e 1 xs.length (xs.map (Value.int .i64)) :: rs) := by
  have hl := h.own.1
  rw [List.take_of_length_le (by omega), List.take_of_length_le (by omega)] at ht
  subst ht
  rw [hx]
  exact h

set_option maxHeartbeats 1000000 in
theorem markIntS_st {w0 w : World} {rs : List Res} (a : Option Addr) (n cap : Nat) (k : Int) (cs0 : List Value) (h : St w0 w (row (.slice a n cap) 3 1 n cs0 :: rs)) (hn : n ≤ 2097152) (hk0 : 0 ≤ k) (hk : k ≤ 1000000000) :
    Calls Try.prog 35 #[.slice a n cap, .int .i64 k] w fun e w' => e = .returned (.int .i64 (k + n)) ∧ St w0 w' (row (.slice a n cap) 3 1 n ((seqInts k n).map (Value.int .i64)) :: rs) := by
  by_cases h0 : 0 < n
  · obtain ⟨g, c, e, _, _⟩ := h.own.form h0
    cases e
    go_enter Try.func35, Try.ntmps35
    go_wp2_with fail
    go_loopw [1, 5] (fun kk i wr => ∃ (j : Nat) (cs : List Value), j ≤ n ∧ i = .int .i64 j ∧ kk = .int .i64 (k + j) ∧ cs.take j = (seqInts k j).map (Value.int .i64) ∧ St w0 wr (row (.slice (some ⟨g, 0, none⟩) n cap) 3 1 n cs :: rs)) (fun _ i _ => n - (intOf i).toNat)
    case atStart => exact ⟨0, cs0, Nat.zero_le _, rfl, by simp, rfl, h⟩
    case round =>
      clear h
      obtain ⟨j, cs, hj, rfl, rfl, ht, s1⟩ := hrel
      have hl := s1.own.1
      by_cases hlt : j < n
      · have cd := s1.own.cellAt j (by omega)
        have fd := s1.own.frozenAt j
        rw [List.getElem?_eq_getElem (by omega)] at cd
        have HT := Lib.hid (seq_set (k := k) (by omega) ht)
        have s2 := s1.rowSet j (.int .i64 (k + j))
        have i1 : (0 : Int) ≤ (j : Int) := by omega
        have i2 : (j : Int) < (n : Int) := by omega
        clear ht
        go_wp2_with fail
        go_roundw
        case rel => exact ⟨j + 1, _, hlt, by go_num, by go_num, HT.out, s2⟩
        case measure => simp [intOf]; omega
      · have ej : j = n := by omega
        subst ej
        rw [List.take_of_length_le (by omega)] at ht
        subst ht
        go_wp2_with fail
        go_ret
        exact ⟨rfl, s1⟩
  · obtain rfl : n = 0 := by omega
    have hl := h.own.1
    obtain rfl : cs0 = [] := List.eq_nil_of_length_eq_zero (by omega)
    go_enter Try.func35, Try.ntmps35
    go_wp2_with fail
    go_loop [1, 5] (fun kk i => i = .int .i64 0 ∧ kk = .int .i64 k) (fun _ _ => 0)
    case atStart => exact ⟨rfl, rfl⟩
    case round =>
      obtain ⟨rfl, rfl⟩ := hrel
      go_wp2_with fail
      go_ret
      exact ⟨by simp, h⟩

set_option maxHeartbeats 1000000 in
theorem heldIntS_calls (a : Option Addr) (n cap : Nat) (k : Int) (w : World) (h : CellsAt w a ((seqInts k n).map (Value.int .i64))) (hn : n ≤ 2097152) (hk0 : 0 ≤ k) (hk : k ≤ 1000000000) :
    Calls Try.prog 36 #[.slice a n cap, .int .i64 k] w fun e w' => e = .returned (.int .i64 (k + n)) ∧ w = w' := by
  have H := Lib.hid h
  clear h
  go_enter Try.func36, Try.ntmps36
  go_wp2_with fail
  go_loop [1, 5] (fun kk i => ∃ j : Nat, j ≤ n ∧ i = .int .i64 j ∧ kk = .int .i64 (k + j)) (fun _ i => n - (intOf i).toNat)
  case atStart => exact ⟨0, Nat.zero_le _, rfl, by simp⟩
  case round =>
    obtain ⟨j, hj, rfl, rfl⟩ := hrel
    by_cases hlt : j < n
    · obtain ⟨g, off, rfl, hc⟩ : ∃ g off, a = some ⟨g, off, none⟩ ∧ w.cell? ⟨g, off + j, none⟩ = some (.int .i64 (k + j)) := by
        rcases H.out with h | ⟨g, off, rfl, hc⟩
        · have := congrArg List.length h
          simp [seqInts_len] at this; omega
        · exact ⟨g, off, rfl, by rw [hc j (by simp [seqInts_len]; exact hlt), List.getElem?_map, seqInts_at _ _ _ hlt]; rfl⟩
      have i1 : (0 : Int) ≤ (j : Int) := by omega
      have i2 : (j : Int) < (n : Int) := by omega
      go_wp2_with fail
      go_round
      case rel => exact ⟨j + 1, hlt, by go_num, by go_num⟩
      case measure => simp [intOf]; omega
    · obtain rfl : j = n := by omega
      go_wp2_with fail
      go_ret
      exact ⟨rfl, rfl⟩

end Go.Proofs.Ytgpnbcdboofikaa
