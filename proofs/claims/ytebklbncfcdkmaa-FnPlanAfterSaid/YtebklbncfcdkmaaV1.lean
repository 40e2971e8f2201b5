
/-
  The walks of the functions on ids: in range, the place in a list, the set of bits, all different. No statement is proved here.
-/
import Derived.Test.YtebklbncfcdkmaaV0
import Derived.Test.YtebklbncfcdkmaaP1
namespace Go.Proofs.Ytebklbncfcdkmaa
open Go.RowKit

set_option maxHeartbeats 400000 in
theorem l13Place_calls (a : Option Addr) (cap : Nat) (xs : List Int) (n : Int) (w : World) (hm : xs.length ≤ 1099511627776) (hx : IntsAt w a xs) :
    Calls Try.prog 33 #[.slice a xs.length cap, .int .i64 n] w fun e w' => e = .returned (.int .i64 (place xs n)) ∧ w = w' := by
  go_enter Try.func33, Try.ntmps33
  go_wp2
  go_loop [5] (fun i => ∃ k : Nat, k ≤ xs.length ∧ i = .int .i64 k ∧ ∀ j, j < k → xs.getD j 0 ≠ n) (fun i => xs.length - (intOf i).toNat)
  case atStart => exact ⟨0, Nat.zero_le _, rfl, by intro j hj; omega⟩
  case round =>
    obtain ⟨k, hk, rfl, hn⟩ := hrel
    by_cases hlt : k < xs.length
    · rcases hx with rfl | ⟨b, off, rfl, hc⟩
      · simp at hlt
      have hcell := hc k hlt
      have HN := Lib.hid hn; clear hn hc
      go_wp2
      · have he : (xs[k] == n) = true := by assumption
        go_ret
        exact ⟨by rw [place_at xs n k hlt (by simpa using he) HN.out]; rfl, rfl⟩
      · have he : (xs[k] == n) = false := by assumption
        go_round
        case rel =>
          refine ⟨k + 1, hlt, by go_num, fun j hj => ?_⟩
          by_cases e : j = k
          · subst e; simpa [hlt] using he
          · exact HN.out j (by omega)
        case measure => simp [intOf]; omega
    · have HN := Lib.hid hn; clear hn
      go_wp2
      go_ret
      exact ⟨by rw [place_none xs n (fun j hj => HN.out j (by omega))]; rfl, rfl⟩

/-- Block b is a set of bits: of the ids from 1 to 99 those of xs. -/
def BitsAt (w : World) (b : Nat) (xs : List Int) : Prop :=
  ∃ x y : Nat, w.heap[b]? = some (.cells #[.int .u64 x, .int .u64 y] 60 (0, 0)) ∧ x < 18446744073709551616 ∧ y < 18446744073709551616 ∧
    ∀ n : Nat, 1 ≤ n → n ≤ 99 → (if n < 64 then x.testBit n else y.testBit (n - 64)) = decide ((n : Int) ∈ xs)

theorem BitsAt.kept {w w' : World} {b : Nat} {xs : List Int} {r : Option Nat} (h : BitsAt w b xs) (hg : w.grownBy w' r) (hr : r ≠ some b) : BitsAt w' b xs := by
  obtain ⟨x, y, h1, h2⟩ := h
  exact ⟨x, y, heap_kept h1 hg hr, h2⟩

set_option maxHeartbeats 400000 in
theorem has_calls (b : Nat) (xs : List Int) (n : Int) (w : World) (hb : BitsAt w b xs) :
    Calls Try.prog 27 #[.pointer (some ⟨b, 0, none⟩), .int .i64 n] w fun e w' => e = .returned (.bool (decide (1 ≤ n ∧ n ≤ 99 ∧ n ∈ xs))) ∧ w = w' := by
  obtain ⟨x, y, hh, hx, hy, hbit⟩ := hb
  have h0 : w.cell? ⟨b, 0, none⟩ = some (.int .u64 x) := by rw [cell_of_heap hh]; rfl
  have h1 : w.cell? ⟨b, 1, none⟩ = some (.int .u64 y) := by rw [cell_of_heap hh]; rfl
  by_cases hn : 1 ≤ n ∧ n ≤ 99
  · obtain ⟨hn1, hn2⟩ := hn
    obtain ⟨m, rfl⟩ := Int.eq_ofNat_of_zero_le (show 0 ≤ n by omega)
    have H := hbit m (by omega) (by omega)
    have e0 : decide (1 ≤ (m : Int) ∧ (m : Int) ≤ 99 ∧ (m : Int) ∈ xs) = decide ((m : Int) ∈ xs) := by
      rw [Bool.eq_iff_iff]; simp only [decide_eq_true_eq]; exact ⟨fun h => h.2.2, fun h => ⟨hn1, hn2, h⟩⟩
    rw [e0, ← H]
    clear hbit H hh e0
    by_cases hq : m < 64
    · have e1 : (m : Int) / 64 = 0 := by omega
      have e2 : (m : Int) % 64 = m := by omega
      have F := Lib.hid (bit_and x m hx)
      rw [if_pos hq]
      go_enter Try.func27, Try.ntmps27
      go_wp2_with (go_at_call 18; refine (idValid_yes _ _ ⟨by omega, by omega⟩).mono ?_; rintro e w' ⟨rfl, rfl⟩)
      go_ret
      exact ⟨by simpa using F.out, rfl⟩
    · have e1 : (m : Int) / 64 = 1 := by omega
      have e2 : (m : Int) % 64 = m - 64 := by omega
      have e3 : ((m : Int) - 64).toNat = m - 64 := by omega
      have F := Lib.hid (bit_and y (m - 64) hy)
      rw [if_neg hq]
      go_enter Try.func27, Try.ntmps27
      go_wp2_with (go_at_call 18; refine (idValid_yes _ _ ⟨by omega, by omega⟩).mono ?_; rintro e w' ⟨rfl, rfl⟩)
      go_ret
      exact ⟨by simpa using F.out, rfl⟩
  · have e0 : decide (1 ≤ n ∧ n ≤ 99 ∧ n ∈ xs) = false := by
      rw [decide_eq_false_iff_not]; intro h; exact hn ⟨h.1, h.2.1⟩
    rw [e0]
    clear hbit hh e0
    go_enter Try.func27, Try.ntmps27
    go_wp2_with (go_at_call 18; refine (idValid_no _ _ hn).mono ?_; rintro e w' ⟨rfl, rfl⟩)
    go_ret
    exact ⟨rfl, rfl⟩

set_option maxHeartbeats 400000 in
theorem add_calls (b : Nat) (xs : List Int) (n : Int) (w : World) (hb : BitsAt w b xs) :
    Calls Try.prog 26 #[.pointer (some ⟨b, 0, none⟩), .int .i64 n] w fun e w' => e = .returned (.tuple #[]) ∧ BitsAt w' b (xs ++ [n]) ∧ w.grownBy w' (some b) := by
  obtain ⟨x, y, hh, hx, hy, hbit⟩ := hb
  have h0 : w.cell? ⟨b, 0, none⟩ = some (.int .u64 x) := by rw [cell_of_heap hh]; rfl
  have h1 : w.cell? ⟨b, 1, none⟩ = some (.int .u64 y) := by rw [cell_of_heap hh]; rfl
  have hf0 := frozen_of_heap (o := 0) hh
  have hf1 := frozen_of_heap (o := 1) hh
  by_cases hn : 1 ≤ n ∧ n ≤ 99
  · obtain ⟨hn1, hn2⟩ := hn
    obtain ⟨m, rfl⟩ := Int.eq_ofNat_of_zero_le (show 0 ≤ n by omega)
    by_cases hq : m < 64
    · have e1 : (m : Int) / 64 = 0 := by omega
      have e2 : (m : Int) % 64 = m := by omega
      have fin : BitsAt (w.setCell ⟨b, 0, none⟩ (.int .u64 (bits .or .u64 x (IntKind.u64.wrap (2 ^ m))))).drew b (xs ++ [(m : Int)]) := by
        obtain ⟨c, hc1, hc2, hc3⟩ := bit_or x m hx hq
        refine ⟨c, y, ?_, hc2, hy, fun k hk1 hk2 => ?_⟩
        · show (w.setCell ⟨b, 0, none⟩ _).heap[b]? = _
          rw [heap_set hh, hc1]; rfl
        · have H := hbit k hk1 hk2
          split
          · rename_i hk
            rw [if_pos hk] at H
            rw [hc3, H]
            exact mem_snoc_bit xs k m
          · rename_i hk
            rw [if_neg hk] at H
            rw [H]
            exact mem_snoc_no xs k m (by omega)
      have FIN := Lib.hid fin
      clear hbit hh fin
      go_enter Try.func26, Try.ntmps26
      go_wp2_with (go_at_call 18; refine (idValid_yes _ _ ⟨by omega, by omega⟩).mono ?_; rintro e w' ⟨rfl, rfl⟩)
      go_region
      go_end0
      exact ⟨rfl, by simpa using FIN.out, grown_drew (grown_put w ⟨b, 0, none⟩ _)⟩
    · have e1 : (m : Int) / 64 = 1 := by omega
      have e2 : (m : Int) % 64 = m - 64 := by omega
      have e3 : ((m : Int) - 64).toNat = m - 64 := by omega
      have fin : BitsAt (w.setCell ⟨b, 1, none⟩ (.int .u64 (bits .or .u64 y (IntKind.u64.wrap (2 ^ (m - 64)))))).drew b (xs ++ [(m : Int)]) := by
        obtain ⟨c, hc1, hc2, hc3⟩ := bit_or y (m - 64) hy (by omega)
        refine ⟨x, c, ?_, hx, hc2, fun k hk1 hk2 => ?_⟩
        · show (w.setCell ⟨b, 1, none⟩ _).heap[b]? = _
          rw [heap_set hh, hc1]; rfl
        · have H := hbit k hk1 hk2
          split
          · rename_i hk
            rw [if_pos hk] at H
            rw [H]
            exact mem_snoc_no xs k m (by omega)
          · rename_i hk
            rw [if_neg hk] at H
            rw [hc3, H, ← mem_snoc_bit xs k m]
            congr 1
            rw [Bool.eq_iff_iff]; simp only [decide_eq_true_eq]; omega
      have FIN := Lib.hid fin
      clear hbit hh fin
      go_enter Try.func26, Try.ntmps26
      go_wp2_with (go_at_call 18; refine (idValid_yes _ _ ⟨by omega, by omega⟩).mono ?_; rintro e w' ⟨rfl, rfl⟩)
      go_region
      go_end0
      exact ⟨rfl, by simpa using FIN.out, grown_drew (grown_put w ⟨b, 1, none⟩ _)⟩
  · have fin : BitsAt w b (xs ++ [n]) := ⟨x, y, hh, hx, hy, fun k hk1 hk2 => by
      rw [hbit k hk1 hk2]; exact mem_snoc_no xs k n (by omega)⟩
    have FIN := Lib.hid fin
    clear hbit hh fin
    go_enter Try.func26, Try.ntmps26
    go_wp2_with (go_at_call 18; refine (idValid_no _ _ hn).mono ?_; rintro e w' ⟨rfl, rfl⟩)
    go_end0
    exact ⟨rfl, FIN.out, grown_refl _ _⟩

theorem has_yes (b : Nat) (xs : List Int) (n : Int) (w : World) (hb : BitsAt w b xs) (h : 1 ≤ n ∧ n ≤ 99) (hn : n ∈ xs) :
    Calls Try.prog 27 #[.pointer (some ⟨b, 0, none⟩), .int .i64 n] w fun e w' => e = .returned (.bool true) ∧ w = w' :=
  (has_calls b xs n w hb).mono fun e w' ⟨h1, h2⟩ => ⟨by rw [h1, decide_eq_true ⟨h.1, h.2, hn⟩], h2⟩
theorem has_no (b : Nat) (xs : List Int) (n : Int) (w : World) (hb : BitsAt w b xs) (hn : n ∉ xs) :
    Calls Try.prog 27 #[.pointer (some ⟨b, 0, none⟩), .int .i64 n] w fun e w' => e = .returned (.bool false) ∧ w = w' :=
  (has_calls b xs n w hb).mono fun e w' ⟨h1, h2⟩ => ⟨by rw [h1, decide_eq_false (fun h => hn h.2.2)], h2⟩


end Go.Proofs.Ytebklbncfcdkmaa
