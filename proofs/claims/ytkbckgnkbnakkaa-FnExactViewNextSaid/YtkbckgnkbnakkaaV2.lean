/-
  The walks of ViewValid, the program's and the reference's. No statement is proved here.
-/
import Derived.Test.YtkbckgnkbnakkaaV1
namespace Go.Proofs.Ytkbckgnkbnakkaa
open Go.RowKit

theorem viewOk_bad1 {num : Int} {xs : List Int} (h : ¬ (0 ≤ num ∧ num ≤ 999 ∧ 1 ≤ xs.length ∧ xs.length ≤ 5)) : viewOk num xs = false := by
  rw [viewOk, decide_eq_false h]; rfl
theorem viewOk_good1 {num : Int} {xs : List Int} (h : 0 ≤ num ∧ num ≤ 999 ∧ 1 ≤ xs.length ∧ xs.length ≤ 5) : viewOk num xs = idsOk xs := by
  rw [viewOk, decide_eq_true h]; rfl

set_option maxHeartbeats 400000 in
theorem viewValid_calls (a : Option Addr) (cap : Nat) (num : Int) (xs : List Int) (w : World) (hm : xs.length ≤ 1099511627776) (hx : IntsAt w a xs) :
    Calls Try.prog 16 #[.agg #[.int .i64 num, .slice a xs.length cap]] w fun e w' => e = .returned (.bool (viewOk num xs)) ∧ Below w.heap.size w w' := by
  have hx1 := hx.below ((Below.refl w.heap.size w).alloc (Nat.le_refl _) (.cells #[.int .i64 num, .slice a xs.length cap] 25))
  by_cases h1 : 0 ≤ num
  · by_cases h2 : num ≤ 999
    · by_cases h3 : 1 ≤ xs.length
      · by_cases h4 : xs.length ≤ 5
        · have F := Lib.hid (viewOk_good1 ⟨h1, h2, h3, h4⟩)
          go_enter Try.func16, Try.ntmps16
          go_wp2_with (go_at_call 46; refine (idsDiffer_calls _ _ _ _ hm hx1).mono ?_; rintro e w1 ⟨rfl, hb1⟩)
          go_ret
          exact ⟨by rw [F.out]; rfl, ((Below.refl _ _).alloc (Nat.le_refl _) _).trans (hb1.mono (by simp))⟩
        · have F := Lib.hid (viewOk_bad1 (num := num) (xs := xs) (by omega))
          go_enter Try.func16, Try.ntmps16
          go_wp2
          go_ret
          exact ⟨by rw [F.out]; rfl, (Below.refl _ _).alloc (Nat.le_refl _) _⟩
      · have F := Lib.hid (viewOk_bad1 (num := num) (xs := xs) (by omega))
        go_enter Try.func16, Try.ntmps16
        go_wp2
        go_ret
        exact ⟨by rw [F.out]; rfl, (Below.refl _ _).alloc (Nat.le_refl _) _⟩
    · have F := Lib.hid (viewOk_bad1 (num := num) (xs := xs) (by omega))
      go_enter Try.func16, Try.ntmps16
      go_wp2
      go_ret
      exact ⟨by rw [F.out]; rfl, (Below.refl _ _).alloc (Nat.le_refl _) _⟩
  · have F := Lib.hid (viewOk_bad1 (num := num) (xs := xs) (by omega))
    go_enter Try.func16, Try.ntmps16
    go_wp2
    go_ret
    exact ⟨by rw [F.out]; rfl, (Below.refl _ _).alloc (Nat.le_refl _) _⟩


theorem viewOk_bad2 {num : Int} {xs : List Int} (h : idsOk xs = false) : viewOk num xs = false := by rw [viewOk, h, Bool.and_false]

set_option maxHeartbeats 1000000 in
theorem specViewValid_calls (a : Option Addr) (cap : Nat) (num : Int) (xs : List Int) (w : World) (hm : xs.length ≤ 1099511627776) (hx : IntsAt w a xs) :
    Calls Try.prog 17 #[.agg #[.int .i64 num, .slice a xs.length cap]] w fun e w' => e = .returned (.bool (viewOk num xs)) ∧ Below w.heap.size w w' := by
  have hx1 := hx.below ((Below.refl w.heap.size w).alloc (Nat.le_refl _) (.cells #[.int .i64 num, .slice a xs.length cap] 25))
  have hB : Below w.heap.size w (w.alloc (.cells #[.int .i64 num, .slice a xs.length cap] 25)) := (Below.refl _ _).alloc (Nat.le_refl _) _
  go_enter Try.func17, Try.ntmps17
  go_wp2_with fail
  go_loopw [3] (fun i wr => ∃ k n : Nat, k ≤ xs.length ∧ i = .int .i64 k ∧ idsOk (xs.take k) = true ∧ wr = (w.alloc (.cells #[.int .i64 num, .slice a xs.length cap] 25)).drewN n) (fun i _ => xs.length - (intOf i).toNat)
  case atStart => exact ⟨0, 0, Nat.zero_le _, rfl, by simp [idsOk_nil], rfl⟩
  case round =>
    obtain ⟨k, n, hk, rfl, hok, rfl⟩ := hrel
    by_cases hlt : k < xs.length
    · rcases id hx1 with rfl | ⟨b, off, rfl, hc⟩
      · simp at hlt
      have hcell := hc k hlt
      have hxn := fun m => hx1.drewN m
      have hsn := take_snoc' xs k hlt
      have hok1 : idsOk (xs.take (k + 1)) = (decide (1 ≤ xs[k] ∧ xs[k] ≤ 99) && !decide (xs[k] ∈ xs.take k)) := by rw [hsn, idsOk_snoc, hok, Bool.true_and]
      have hpl := place_lt xs k hlt
      have i1 : (0 : Int) ≤ (k : Int) := by omega
      have i2 : (k : Int) < (xs.length : Int) := by omega
      by_cases hv : 1 ≤ xs[k] ∧ xs[k] ≤ 99
      · by_cases hin : xs[k] ∈ xs.take k
        · have hd : decide (place xs xs[k] < (k : Int)) = true := decide_eq_true (hpl.1.2 hin)
          have H1 := Lib.hid hok1; have H2 := Lib.hid hsn; have HX := Lib.hid hv; have HI := Lib.hid hin; clear hv hok1 hsn hc hpl hok hin
          go_wp2_with fail
          go_quiet ((first | (go_at_call 47; exact quiet_at (l6In_yes _ _ _ _ HX.out)) | (go_at_call 48; exact quiet_at (l13Place_calls _ _ _ _ _ hm (hxn _)))))
          go_wp2_with fail
          go_ret
          exact ⟨ret_bool (by rw [viewOk_bad2 (idsOk_take (k := k + 1) (by rw [H1.out, decide_eq_true HI.out]; simp))]), below_drewN (below_drewN hB _) _⟩
        · have hd : decide (place xs xs[k] < (k : Int)) = false := decide_eq_false (fun h => hin (hpl.1.1 h))
          have H1 := Lib.hid hok1; have H2 := Lib.hid hsn; have HX := Lib.hid hv; have HI := Lib.hid hin; clear hv hok1 hsn hc hpl hok hin
          go_wp2_with fail
          go_quiet ((first | (go_at_call 47; exact quiet_at (l6In_yes _ _ _ _ HX.out)) | (go_at_call 48; exact quiet_at (l13Place_calls _ _ _ _ _ hm (hxn _)))))
          go_wp2_with fail
          go_roundw
          case rel => exact ⟨k + 1, _, hlt, by go_num, by rw [H1.out, decide_eq_true HX.out, decide_eq_false HI.out]; rfl, rfl⟩
          case measure => simp [intOf]; omega
      · have H1 := Lib.hid hok1; have H2 := Lib.hid hsn; have HX := Lib.hid hv; clear hv hok1 hsn hc hpl hok
        go_wp2_with fail
        go_quiet ((go_at_call 47; exact quiet_at (l6In_no _ _ _ _ HX.out)))
        go_wp2_with fail
        go_ret
        exact ⟨ret_bool (by rw [viewOk_bad2 (idsOk_take (k := k + 1) (by rw [H1.out, decide_eq_false HX.out]; rfl))]), below_drewN (below_drewN hB _) _⟩
    · have HK : Hid (idsOk xs = true) := by rw [List.take_of_length_le (by omega)] at hok; exact hok
      clear hok
      by_cases h1 : 0 ≤ num ∧ num ≤ 999
      · by_cases h2 : 1 ≤ xs.length ∧ xs.length ≤ 5
        · have F := Lib.hid (viewOk_good1 ⟨h1.1, h1.2, h2.1, h2.2⟩)
          have HX := Lib.hid h1; have HY := Lib.hid (show (1 : Int) ≤ (xs.length : Int) ∧ (xs.length : Int) ≤ 5 by omega); clear h1 h2
          go_wp2_with fail
          refine (l6In_yes _ _ _ _ HX.out).mono ?_
          rintro e w' ⟨rfl, rfl⟩
          go_wp2_with fail
          refine (l6In_yes _ _ _ _ HY.out).mono ?_
          rintro e w' ⟨rfl, rfl⟩
          go_wp2_with fail
          go_ret
          exact ⟨ret_bool (by rw [F.out, HK.out]), below_drewN hB _⟩
        · have F := Lib.hid (viewOk_bad1 (num := num) (xs := xs) (by omega))
          have HX := Lib.hid h1; have HY := Lib.hid (show ¬ ((1 : Int) ≤ (xs.length : Int) ∧ (xs.length : Int) ≤ 5) by omega); clear h1 h2
          go_wp2_with fail
          refine (l6In_yes _ _ _ _ HX.out).mono ?_
          rintro e w' ⟨rfl, rfl⟩
          go_wp2_with fail
          refine (l6In_no _ _ _ _ HY.out).mono ?_
          rintro e w' ⟨rfl, rfl⟩
          go_wp2_with fail
          go_ret
          exact ⟨ret_bool (by rw [F.out]), below_drewN hB _⟩
      · have F := Lib.hid (viewOk_bad1 (num := num) (xs := xs) (by omega))
        have HX := Lib.hid h1; clear h1
        go_wp2_with fail
        refine (l6In_no _ _ _ _ HX.out).mono ?_
        rintro e w' ⟨rfl, rfl⟩
        go_wp2_with fail
        go_ret
        exact ⟨ret_bool (by rw [F.out]), below_drewN hB _⟩

end Go.Proofs.Ytkbckgnkbnakkaa
