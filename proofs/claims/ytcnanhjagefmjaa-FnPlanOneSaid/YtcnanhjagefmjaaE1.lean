
/-
  The walks of the laws' own functions on slices of ints: size, copy, mark, held. No statement is proved here.
-/
import Derived.Test.YtcnanhjagefmjaaSt
import Derived.Test.YtcnanhjagefmjaaEq
import Derived.Test.YtcnanhjagefmjaaP5
import Derived.Laws.OwnMore
namespace Go.Proofs.Ytcnanhjagefmjaa
open Go.RowKit

theorem row_full {g n : Nat} {e : TypeId} {cs : List Value} {xs : List Int} {w0 w : World} {rs : List Res} (h : St w0 w (row (.slice (some ⟨g, 0, none⟩) n n) e 1 n cs :: rs)) (hx : xs.length = n) (ht : cs.take n = (xs.take n).map (Value.int .i64)) :
    St w0 w (row (.slice (some ⟨g, 0, none⟩) xs.length xs.length) e 1 xs.length (xs.map (Value.int .i64)) :: rs) := by
  have hl := h.own.1
  rw [List.take_of_length_le (by omega), List.take_of_length_le (by omega)] at ht
  subst ht
  rw [hx]
  exact h

set_option maxHeartbeats 1000000 in
theorem toIntS_calls (a : Option Addr) (cap : Nat) (xs : List Int) (w : World) (hm : xs.length ≤ 2097152) (hx : IntsAt w a xs) :
    Calls Try.prog 16 #[.slice a xs.length cap] w (MadeInts w xs) := by
  obtain ⟨ht, i, z, hi, hz, hsize, hby, hzs, hsz⟩ := elem_int
  obtain ⟨wm, hr, ho, hg⟩ := run_makeSlice_full (P := Try.prog) w w.heap.size 22 3 i z 1 ht hi hz hsize .i64 .i64 xs.length (by omega) (by rw [hby]; omega) (by unfold maxLen; omega) (Nat.le_refl _)
  have hl := ho.1
  have s0 : St w wm (row (.slice (some ⟨w.heap.size, 0, none⟩) xs.length xs.length) 3 1 xs.length (madeCells z.cells (xs.length * 1)).toList :: []) :=
    (St.start w).add hg (row_own ho) (fun b hb => by cases hb; exact ho.lt _ rfl)
  generalize (madeCells z.cells (xs.length * 1)).toList = cs0 at *
  clear ho hg hi hz hsize hby hzs hsz ht
  go_enter Try.func16, Try.ntmps16
  go_wp2_with fail
  clear hr
  go_loopw [4] (fun i wr => ∃ (k : Nat) (cs : List Value), k ≤ xs.length ∧ i = .int .i64 k ∧ cs.take k = (xs.take k).map (Value.int .i64) ∧ St w wr [row (.slice (some ⟨w.heap.size, 0, none⟩) xs.length xs.length) 3 1 xs.length cs]) (fun i _ => xs.length - (intOf i).toNat)
  case atStart => exact ⟨0, cs0, Nat.zero_le _, rfl, rfl, s0⟩
  case round =>
    clear s0 hl
    obtain ⟨k, cs, hk, rfl, ht, s1⟩ := hrel
    have hl := s1.own.1
    by_cases hlt : k < xs.length
    · rcases hx.below s1.below with rfl | ⟨b, off, rfl, hc⟩
      · simp at hlt
      have hcell := hc k hlt
      have cd := s1.own.cellAt k (by omega)
      have fd := s1.own.frozenAt k
      rw [List.getElem?_eq_getElem (by omega)] at cd
      have HT := Lib.hid (copy_set (by omega) hlt ht)
      have s2 := s1.rowSet k (.int .i64 xs[k])
      have i1 : (0 : Int) ≤ (k : Int) := by omega
      have i2 : (k : Int) < (xs.length : Int) := by omega
      clear ht hc
      simp only [List.getD, List.getElem?_eq_getElem hlt, Option.getD_some] at hcell
      go_wp2_with fail
      go_roundw
      case rel => exact ⟨k + 1, _, hlt, by go_num, HT.out, s2⟩
      case measure => simp [intOf]; omega
    · have ek : k = xs.length := by omega
      have s2 := row_full s1 rfl (by rw [← ek]; exact ht)
      clear ht
      go_wp2_with fail
      go_ret
      exact madeInts s2 rfl

set_option maxHeartbeats 1000000 in
theorem markIntS_st {w0 w : World} {rs : List Res} (a : Option Addr) (n cap : Nat) (k : Int) (cs0 : List Value) (h : St w0 w (row (.slice a n cap) 3 1 n cs0 :: rs)) (hn : n ≤ 2097152) (hk0 : 0 ≤ k) (hk : k ≤ 1000000000) :
    Calls Try.prog 22 #[.slice a n cap, .int .i64 k] w fun e w' => e = .returned (.int .i64 (k + n)) ∧ St w0 w' (row (.slice a n cap) 3 1 n ((seqInts k n).map (Value.int .i64)) :: rs) := by
  by_cases h0 : 0 < n
  · obtain ⟨g, c, e, _, _⟩ := h.own.form h0
    cases e
    go_enter Try.func22, Try.ntmps22
    go_wp2_with fail
    go_loopw [1, 5] (fun kk i wr => ∃ (j : Nat) (cs : List Value), j ≤ n ∧ i = .int .i64 j ∧ kk = .int .i64 (k + j) ∧ cs.take j = (seqInts k j).map (Value.int .i64) ∧ St w0 wr (row (.slice (some ⟨g, 0, none⟩) n cap) 3 1 n cs :: rs)) (fun _ i _ => n - (intOf i).toNat)
    case atStart => exact ⟨0, cs0, Nat.zero_le _, rfl, by simp, rfl, h⟩
    case round =>
      clear h
      obtain ⟨j, cs, hj, rfl, rfl, ht, s1⟩ := hrel
      have hl := s1.own.1
      by_cases hlt : j < n
      · have cd := s1.own.cellAt j (by omega)
        have fd := s1.own.frozenAt j
        rw [List.getElem?_eq_getElem (by omega)] at cd
        have HT := Lib.hid (seq_set (k := k) (by omega) ht)
        have s2 := s1.rowSet j (.int .i64 (k + j))
        have i1 : (0 : Int) ≤ (j : Int) := by omega
        have i2 : (j : Int) < (n : Int) := by omega
        clear ht
        go_wp2_with fail
        go_roundw
        case rel => exact ⟨j + 1, _, hlt, by go_num, by go_num, HT.out, s2⟩
        case measure => simp [intOf]; omega
      · have ej : j = n := by omega
        subst ej
        rw [List.take_of_length_le (by omega)] at ht
        subst ht
        go_wp2_with fail
        go_ret
        exact ⟨rfl, s1⟩
  · obtain rfl : n = 0 := by omega
    have hl := h.own.1
    obtain rfl : cs0 = [] := List.eq_nil_of_length_eq_zero (by omega)
    go_enter Try.func22, Try.ntmps22
    go_wp2_with fail
    go_loop [1, 5] (fun kk i => i = .int .i64 0 ∧ kk = .int .i64 k) (fun _ _ => 0)
    case atStart => exact ⟨rfl, rfl⟩
    case round =>
      obtain ⟨rfl, rfl⟩ := hrel
      go_wp2_with fail
      go_ret
      exact ⟨by simp, h⟩

set_option maxHeartbeats 1000000 in
theorem heldIntS_calls (a : Option Addr) (n cap : Nat) (k : Int) (w : World) (h : CellsAt w a ((seqInts k n).map (Value.int .i64))) (hn : n ≤ 2097152) (hk0 : 0 ≤ k) (hk : k ≤ 1000000000) :
    Calls Try.prog 23 #[.slice a n cap, .int .i64 k] w fun e w' => e = .returned (.int .i64 (k + n)) ∧ w = w' := by
  have H := Lib.hid h
  clear h
  go_enter Try.func23, Try.ntmps23
  go_wp2_with fail
  go_loop [1, 5] (fun kk i => ∃ j : Nat, j ≤ n ∧ i = .int .i64 j ∧ kk = .int .i64 (k + j)) (fun _ i => n - (intOf i).toNat)
  case atStart => exact ⟨0, Nat.zero_le _, rfl, by simp⟩
  case round =>
    obtain ⟨j, hj, rfl, rfl⟩ := hrel
    by_cases hlt : j < n
    · obtain ⟨g, off, rfl, hc⟩ : ∃ g off, a = some ⟨g, off, none⟩ ∧ w.cell? ⟨g, off + j, none⟩ = some (.int .i64 (k + j)) := by
        rcases H.out with h | ⟨g, off, rfl, hc⟩
        · have := congrArg List.length h
          simp [seqInts_len] at this; omega
        · exact ⟨g, off, rfl, by rw [hc j (by simp [seqInts_len]; exact hlt), List.getElem?_map, seqInts_at _ _ _ hlt]; rfl⟩
      have i1 : (0 : Int) ≤ (j : Int) := by omega
      have i2 : (j : Int) < (n : Int) := by omega
      go_wp2_with fail
      go_round
      case rel => exact ⟨j + 1, hlt, by go_num, by go_num⟩
      case measure => simp [intOf]; omega
    · obtain rfl : j = n := by omega
      go_wp2_with fail
      go_ret
      exact ⟨rfl, rfl⟩

end Go.Proofs.Ytcnanhjagefmjaa
