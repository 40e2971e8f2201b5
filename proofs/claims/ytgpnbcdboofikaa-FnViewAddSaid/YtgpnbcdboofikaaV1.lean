
/-
  The walks of the functions on ids: in range, the place in a list, the set of bits, all different. No statement is proved here.
-/
import Derived.Test.YtgpnbcdboofikaaV0
import Derived.Test.YtgpnbcdboofikaaP1
namespace Go.Proofs.Ytgpnbcdboofikaa
open Go.RowKit

/-- Block b is a set of bits: of the ids from 1 to 99 those of xs. -/
def BitsAt (w : World) (b : Nat) (xs : List Int) : Prop :=
  ∃ x y : Nat, w.heap[b]? = some (.cells #[.int .u64 x, .int .u64 y] 77 (0, 0)) ∧ x < 18446744073709551616 ∧ y < 18446744073709551616 ∧
    ∀ n : Nat, 1 ≤ n → n ≤ 99 → (if n < 64 then x.testBit n else y.testBit (n - 64)) = decide ((n : Int) ∈ xs)

theorem BitsAt.kept {w w' : World} {b : Nat} {xs : List Int} {r : Option Nat} (h : BitsAt w b xs) (hg : w.grownBy w' r) (hr : r ≠ some b) : BitsAt w' b xs := by
  obtain ⟨x, y, h1, h2⟩ := h
  exact ⟨x, y, heap_kept h1 hg hr, h2⟩

set_option maxHeartbeats 400000 in
theorem has_calls (b : Nat) (xs : List Int) (n : Int) (w : World) (hb : BitsAt w b xs) :
    Calls Try.prog 52 #[.pointer (some ⟨b, 0, none⟩), .int .i64 n] w fun e w' => e = .returned (.bool (decide (1 ≤ n ∧ n ≤ 99 ∧ n ∈ xs))) ∧ w = w' := by
  obtain ⟨x, y, hh, hx, hy, hbit⟩ := hb
  have h0 : w.cell? ⟨b, 0, none⟩ = some (.int .u64 x) := by rw [cell_of_heap hh]; rfl
  have h1 : w.cell? ⟨b, 1, none⟩ = some (.int .u64 y) := by rw [cell_of_heap hh]; rfl
  by_cases hn : 1 ≤ n ∧ n ≤ 99
  · obtain ⟨hn1, hn2⟩ := hn
    obtain ⟨m, rfl⟩ := Int.eq_ofNat_of_zero_le (show 0 ≤ n by omega)
    have H := hbit m (by omega) (by omega)
    have e0 : decide (1 ≤ (m : Int) ∧ (m : Int) ≤ 99 ∧ (m : Int) ∈ xs) = decide ((m : Int) ∈ xs) := by
      rw [Bool.eq_iff_iff]; simp only [decide_eq_true_eq]; exact ⟨fun h => h.2.2, fun h => ⟨hn1, hn2, h⟩⟩
    rw [e0, ← H]
    clear hbit H hh e0
    by_cases hq : m < 64
    · have e1 : (m : Int) / 64 = 0 := by omega
      have e2 : (m : Int) % 64 = m := by omega
      have F := Lib.hid (bit_and x m hx)
      rw [if_pos hq]
      go_enter Try.func52, Try.ntmps52
      go_wp2_with (go_at_call 66; refine (idValid_yes _ _ ⟨by omega, by omega⟩).mono ?_; rintro e w' ⟨rfl, rfl⟩)
      go_ret
      exact ⟨by simpa using F.out, rfl⟩
    · have e1 : (m : Int) / 64 = 1 := by omega
      have e2 : (m : Int) % 64 = m - 64 := by omega
      have e3 : ((m : Int) - 64).toNat = m - 64 := by omega
      have F := Lib.hid (bit_and y (m - 64) hy)
      rw [if_neg hq]
      go_enter Try.func52, Try.ntmps52
      go_wp2_with (go_at_call 66; refine (idValid_yes _ _ ⟨by omega, by omega⟩).mono ?_; rintro e w' ⟨rfl, rfl⟩)
      go_ret
      exact ⟨by simpa using F.out, rfl⟩
  · have e0 : decide (1 ≤ n ∧ n ≤ 99 ∧ n ∈ xs) = false := by
      rw [decide_eq_false_iff_not]; intro h; exact hn ⟨h.1, h.2.1⟩
    rw [e0]
    clear hbit hh e0
    go_enter Try.func52, Try.ntmps52
    go_wp2_with (go_at_call 66; refine (idValid_no _ _ hn).mono ?_; rintro e w' ⟨rfl, rfl⟩)
    go_ret
    exact ⟨rfl, rfl⟩

set_option maxHeartbeats 400000 in
theorem add_calls (b : Nat) (xs : List Int) (n : Int) (w : World) (hb : BitsAt w b xs) :
    Calls Try.prog 51 #[.pointer (some ⟨b, 0, none⟩), .int .i64 n] w fun e w' => e = .returned (.tuple #[]) ∧ BitsAt w' b (xs ++ [n]) ∧ w.grownBy w' (some b) := by
  obtain ⟨x, y, hh, hx, hy, hbit⟩ := hb
  have h0 : w.cell? ⟨b, 0, none⟩ = some (.int .u64 x) := by rw [cell_of_heap hh]; rfl
  have h1 : w.cell? ⟨b, 1, none⟩ = some (.int .u64 y) := by rw [cell_of_heap hh]; rfl
  have hf0 := frozen_of_heap (o := 0) hh
  have hf1 := frozen_of_heap (o := 1) hh
  by_cases hn : 1 ≤ n ∧ n ≤ 99
  · obtain ⟨hn1, hn2⟩ := hn
    obtain ⟨m, rfl⟩ := Int.eq_ofNat_of_zero_le (show 0 ≤ n by omega)
    by_cases hq : m < 64
    · have e1 : (m : Int) / 64 = 0 := by omega
      have e2 : (m : Int) % 64 = m := by omega
      have fin : BitsAt (w.setCell ⟨b, 0, none⟩ (.int .u64 (bits .or .u64 x (IntKind.u64.wrap (2 ^ m))))).drew b (xs ++ [(m : Int)]) := by
        obtain ⟨c, hc1, hc2, hc3⟩ := bit_or x m hx hq
        refine ⟨c, y, ?_, hc2, hy, fun k hk1 hk2 => ?_⟩
        · show (w.setCell ⟨b, 0, none⟩ _).heap[b]? = _
          rw [heap_set hh, hc1]; rfl
        · have H := hbit k hk1 hk2
          split
          · rename_i hk
            rw [if_pos hk] at H
            rw [hc3, H]
            exact mem_snoc_bit xs k m
          · rename_i hk
            rw [if_neg hk] at H
            rw [H]
            exact mem_snoc_no xs k m (by omega)
      have FIN := Lib.hid fin
      clear hbit hh fin
      go_enter Try.func51, Try.ntmps51
      go_wp2_with (go_at_call 66; refine (idValid_yes _ _ ⟨by omega, by omega⟩).mono ?_; rintro e w' ⟨rfl, rfl⟩)
      go_region
      go_end0
      exact ⟨rfl, by simpa using FIN.out, grown_drew (grown_put w ⟨b, 0, none⟩ _)⟩
    · have e1 : (m : Int) / 64 = 1 := by omega
      have e2 : (m : Int) % 64 = m - 64 := by omega
      have e3 : ((m : Int) - 64).toNat = m - 64 := by omega
      have fin : BitsAt (w.setCell ⟨b, 1, none⟩ (.int .u64 (bits .or .u64 y (IntKind.u64.wrap (2 ^ (m - 64)))))).drew b (xs ++ [(m : Int)]) := by
        obtain ⟨c, hc1, hc2, hc3⟩ := bit_or y (m - 64) hy (by omega)
        refine ⟨x, c, ?_, hx, hc2, fun k hk1 hk2 => ?_⟩
        · show (w.setCell ⟨b, 1, none⟩ _).heap[b]? = _
          rw [heap_set hh, hc1]; rfl
        · have H := hbit k hk1 hk2
          split
          · rename_i hk
            rw [if_pos hk] at H
            rw [H]
            exact mem_snoc_no xs k m (by omega)
          · rename_i hk
            rw [if_neg hk] at H
            rw [hc3, H, ← mem_snoc_bit xs k m]
            congr 1
            rw [Bool.eq_iff_iff]; simp only [decide_eq_true_eq]; omega
      have FIN := Lib.hid fin
      clear hbit hh fin
      go_enter Try.func51, Try.ntmps51
      go_wp2_with (go_at_call 66; refine (idValid_yes _ _ ⟨by omega, by omega⟩).mono ?_; rintro e w' ⟨rfl, rfl⟩)
      go_region
      go_end0
      exact ⟨rfl, by simpa using FIN.out, grown_drew (grown_put w ⟨b, 1, none⟩ _)⟩
  · have fin : BitsAt w b (xs ++ [n]) := ⟨x, y, hh, hx, hy, fun k hk1 hk2 => by
      rw [hbit k hk1 hk2]; exact mem_snoc_no xs k n (by omega)⟩
    have FIN := Lib.hid fin
    clear hbit hh fin
    go_enter Try.func51, Try.ntmps51
    go_wp2_with (go_at_call 66; refine (idValid_no _ _ hn).mono ?_; rintro e w' ⟨rfl, rfl⟩)
    go_end0
    exact ⟨rfl, FIN.out, grown_refl _ _⟩

theorem has_yes (b : Nat) (xs : List Int) (n : Int) (w : World) (hb : BitsAt w b xs) (h : 1 ≤ n ∧ n ≤ 99) (hn : n ∈ xs) :
    Calls Try.prog 52 #[.pointer (some ⟨b, 0, none⟩), .int .i64 n] w fun e w' => e = .returned (.bool true) ∧ w = w' :=
  (has_calls b xs n w hb).mono fun e w' ⟨h1, h2⟩ => ⟨by rw [h1, decide_eq_true ⟨h.1, h.2, hn⟩], h2⟩
theorem has_no (b : Nat) (xs : List Int) (n : Int) (w : World) (hb : BitsAt w b xs) (hn : n ∉ xs) :
    Calls Try.prog 52 #[.pointer (some ⟨b, 0, none⟩), .int .i64 n] w fun e w' => e = .returned (.bool false) ∧ w = w' :=
  (has_calls b xs n w hb).mono fun e w' ⟨h1, h2⟩ => ⟨by rw [h1, decide_eq_false (fun h => hn h.2.2)], h2⟩


set_option maxHeartbeats 400000 in
theorem idsDiffer_calls (a : Option Addr) (cap : Nat) (xs : List Int) (w : World) (hm : xs.length ≤ 1099511627776) (hx : IntsAt w a xs) :
    Calls Try.prog 43 #[.slice a xs.length cap] w fun e w' => e = .returned (.bool (idsOk xs)) ∧ Below w.heap.size w w' := by
  go_enter Try.func43, Try.ntmps43
  go_wp2_with fail
  have hb0 : BitsAt (w.alloc (.cells #[.int .u64 0, .int .u64 0] 77)) w.heap.size [] := ⟨0, 0, heap_alloc_new w _, by omega, by omega, fun n _ _ => by simp⟩
  go_loopw [5, 8] (fun _ i wr => ∃ k : Nat, k ≤ xs.length ∧ i = .int .i64 k ∧ idsOk (xs.take k) = true ∧ BitsAt wr w.heap.size (xs.take k) ∧ Below w.heap.size w wr) (fun _ i _ => xs.length - (intOf i).toNat)
  case atStart => exact ⟨0, Nat.zero_le _, rfl, by simp [idsOk_nil], by simpa using hb0, (Below.refl _ _).alloc (Nat.le_refl _) _⟩
  case round =>
    obtain ⟨k, hk, rfl, hok, hbits, hbel⟩ := hrel
    by_cases hlt : k < xs.length
    · rcases hx.below hbel with rfl | ⟨b, off, rfl, hc⟩
      · simp at hlt
      have hcell := hc k hlt
      have hsn := take_snoc' xs k hlt
      have hok1 : idsOk (xs.take (k + 1)) = (decide (1 ≤ xs[k] ∧ xs[k] ≤ 99) && !decide (xs[k] ∈ xs.take k)) := by rw [hsn, idsOk_snoc, hok, Bool.true_and]
      have H1 := Lib.hid hok1; have H2 := Lib.hid hsn; clear hok1 hsn hc hok
      by_cases hv : 1 ≤ xs[k] ∧ xs[k] ≤ 99
      · by_cases hin : xs[k] ∈ xs.take k
        · have HX := Lib.hid hv; have HI := Lib.hid hin; clear hv hin
          go_wp2_with (first | (go_at_call 66; refine (idValid_yes _ _ HX.out).mono ?_; rintro e w' ⟨rfl, rfl⟩) | (go_at_call 52; refine (has_yes _ _ _ _ hbits HX.out HI.out).mono ?_; rintro e w' ⟨rfl, rfl⟩))
          go_ret
          exact ⟨ret_bool (by rw [idsOk_take (k := k + 1) (by rw [H1.out, decide_eq_true HI.out]; simp)]), hbel⟩
        · have HX := Lib.hid hv; have HI := Lib.hid hin; clear hv hin
          go_wp2_with (first | (go_at_call 66; refine (idValid_yes _ _ HX.out).mono ?_; rintro e w' ⟨rfl, rfl⟩) | (go_at_call 52; refine (has_no _ _ _ _ hbits HI.out).mono ?_; rintro e w' ⟨rfl, rfl⟩) | (go_at_call 51; refine (add_calls _ _ _ _ hbits).mono ?_; rintro e w1 ⟨rfl, hb1, hg1⟩))
          go_roundw
          case rel => exact ⟨k + 1, hlt, by go_num, by rw [H1.out, decide_eq_true HX.out, decide_eq_false HI.out]; rfl, by rw [H2.out]; exact hb1, grown_below (grown_own (below_grown hbel none) hg1 (by simp))⟩
          case measure => simp [intOf]; omega
      · have HX := Lib.hid hv; clear hv
        go_wp2_with (go_at_call 66; refine (idValid_no _ _ HX.out).mono ?_; rintro e w' ⟨rfl, rfl⟩)
        go_ret
        exact ⟨ret_bool (by rw [idsOk_take (k := k + 1) (by rw [H1.out, decide_eq_false HX.out]; rfl)]), hbel⟩
    · have HK := Lib.hid hok; clear hok
      go_wp2_with fail
      go_ret
      exact ⟨ret_bool (by have := HK.out; rw [List.take_of_length_le (by omega)] at this; rw [this]), hbel⟩

end Go.Proofs.Ytgpnbcdboofikaa
