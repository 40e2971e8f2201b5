
/-
  The walks of the scores, of lists that ascend, and of heap.Push and heap.Pop. No statement is proved here.
-/
import Derived.Test.YtebklbncfcdkmaaX3
namespace Go.Proofs.Ytebklbncfcdkmaa
open Go.RowKit

/-- Ids that ascend from behind lo on. -/
def ascFrom (lo : Int) : List Int → Bool
  | [] => true
  | x :: xs => decide (1 ≤ x ∧ x ≤ 99) && decide (lo < x) && ascFrom x xs
theorem ascFrom_iff : ∀ (xs : List Int) (lo : Int), ascFrom lo xs = true ↔ (∀ x ∈ xs, 1 ≤ x ∧ x ≤ 99) ∧ (∀ x ∈ xs, lo < x) ∧ xs.Pairwise (· < ·)
  | [], lo => by simp [ascFrom]
  | x :: xs, lo => by
    simp only [ascFrom, Bool.and_eq_true, decide_eq_true_eq, ascFrom_iff xs x, List.forall_mem_cons, List.pairwise_cons]
    constructor
    · rintro ⟨⟨h1, h2⟩, h3, h4, h5⟩
      exact ⟨⟨h1, h3⟩, ⟨h2, fun y hy => by have := h4 y hy; omega⟩, h4, h5⟩
    · rintro ⟨⟨h1, h2⟩, ⟨h3, _⟩, h4, h5⟩
      exact ⟨⟨h1, h3⟩, h2, h4, h5⟩
def serversOk (xs : List Int) : Bool := decide (xs.length ≤ 8) && ascFrom 0 xs
theorem asc_valid {xs : List Int} (h : ascFrom 0 xs = true) : ∀ x ∈ xs, 1 ≤ x ∧ x ≤ 99 := ((ascFrom_iff xs 0).1 h).1
theorem asc_lt {xs : List Int} (h : ascFrom 0 xs = true) : xs.Pairwise (· < ·) := ((ascFrom_iff xs 0).1 h).2.2
theorem asc_nodup {xs : List Int} (h : ascFrom 0 xs = true) : xs.Nodup := (asc_lt h).imp (fun h => Int.ne_of_lt h)
theorem asc_of_sub {xs ys : List Int} (h : ascFrom 0 xs = true) (hs : ys.Sublist xs) : ascFrom 0 ys = true := by
  obtain ⟨h1, h2, h3⟩ := (ascFrom_iff xs 0).1 h
  exact (ascFrom_iff ys 0).2 ⟨fun x hx => h1 x (hs.mem hx), fun x hx => h2 x (hs.mem hx), h3.sublist hs⟩
/-- The one before a place. -/
def prev (xs : List Int) (k : Nat) : Int := if k = 0 then 0 else xs.getD (k - 1) 0
theorem prev_succ (xs : List Int) (k : Nat) (h : k < xs.length) : prev xs (k + 1) = xs[k] := by simp [prev, h]
theorem asc_drop {xs : List Int} {k : Nat} (h : k < xs.length) : ascFrom (prev xs k) (xs.drop k) = (decide (1 ≤ xs[k] ∧ xs[k] ≤ 99) && decide (prev xs k < xs[k]) && ascFrom (prev xs (k + 1)) (xs.drop (k + 1))) := by
  rw [List.drop_eq_getElem_cons h, prev_succ xs k h]; rfl

set_option maxHeartbeats 4000000 in
theorem idsAscend_calls (a : Option Addr) (cap : Nat) (xs : List Int) (w : World) (hm : xs.length ≤ 1099511627776) (hx : IntsAt w a xs) :
    Calls Try.prog 25 #[.slice a xs.length cap] w fun e w' => e = .returned (.bool (ascFrom 0 xs)) ∧ w = w' := by
  go_enter Try.func25, Try.ntmps25
  go_wp2
  go_loop [7] (fun i => ∃ k : Nat, k ≤ xs.length ∧ i = .int .i64 k ∧ ascFrom (prev xs k) (xs.drop k) = ascFrom 0 xs) (fun i => xs.length - (intOf i).toNat)
  case atStart => exact ⟨0, Nat.zero_le _, rfl, rfl⟩
  case round =>
    obtain ⟨k, hk, rfl, hn⟩ := hrel
    by_cases hlt : k < xs.length
    · rcases hx with rfl | ⟨b, off, rfl, hc⟩
      · simp at hlt
      have hcell : w.cell? ⟨b, off + k, none⟩ = some (.int .i64 xs[k]) := by
        have := hc k hlt
        simpa [hlt] using this
      have i1 : (0 : Int) ≤ (k : Int) := by omega
      have i2 : (k : Int) < (xs.length : Int) := by omega
      rw [asc_drop hlt] at hn
      have NX := Lib.hid (prev_succ xs k hlt)
      by_cases hv : 1 ≤ xs[k] ∧ xs[k] ≤ 99
      · rw [decide_eq_true hv] at hn
        have YES := Lib.hid (idValid_yes xs[k] w hv)
        cases k with
        | zero =>
          have HL : decide (prev xs 0 < xs[0]) = true := by simp [prev]; omega
          rw [HL] at hn
          have HN := Lib.hid hn
          clear hv hc hn HL NX
          have hcell : w.cell? ⟨b, off, none⟩ = some (.int .i64 xs[0]) := hcell
          generalize xs[0] = y at *
          go_wp2_with fail
          refine YES.out.mono ?_
          rintro e w' ⟨rfl, rfl⟩
          go_wp2_with fail
          go_round
          case rel => exact ⟨1, hlt, by go_num, by rw [← HN.out]; rfl⟩
          case measure => simp [intOf]; omega
        | succ k =>
          have hlt0 : k < xs.length := by omega
          have hcell0 : w.cell? ⟨b, off + k, none⟩ = some (.int .i64 xs[k]) := by
            have := hc k hlt0
            simpa [hlt0] using this
          rw [prev_succ xs k hlt0] at hn
          clear hv hc NX
          generalize xs[k + 1] = y at *
          generalize xs[k] = z at *
          have i3 : (0 : Int) ≤ (k : Int) := by omega
          have i4 : (k : Int) < (xs.length : Int) := by omega
          have HN := Lib.hid hn
          clear hn
          by_cases hz : z < y
          · go_wp2_with fail
            refine YES.out.mono ?_
            rintro e w' ⟨rfl, rfl⟩
            go_wp2_with fail
            go_round
            case rel => exact ⟨k + 2, hlt, by go_num, by rw [← HN.out, decide_eq_true hz]; rfl⟩
            case measure => simp [intOf]; omega
          · go_wp2_with fail
            refine YES.out.mono ?_
            rintro e w' ⟨rfl, rfl⟩
            go_wp2_with fail
            go_ret
            exact ⟨ret_bool (by rw [← HN.out, decide_eq_false (show ¬ z < y by omega)]; rfl), rfl⟩
      · have HX := Lib.hid (idValid_no xs[k] w hv)
        rw [decide_eq_false hv] at hn
        have HN := Lib.hid hn
        clear hv hc hn NX
        generalize xs[k] = y at *
        go_wp2_with fail
        refine HX.out.mono ?_
        rintro e w' ⟨rfl, rfl⟩
        go_wp2_with fail
        go_ret
        exact ⟨ret_bool (by rw [← HN.out]; rfl), rfl⟩
    · have HN := Lib.hid hn; clear hn
      go_wp2
      go_ret
      exact ⟨ret_bool (by rw [← HN.out, List.drop_eq_nil_of_le (by omega)]; rfl), rfl⟩

theorem impl_servers (a : Option Addr) (cap : Nat) (xs : List Int) (w : World) (hm : xs.length ≤ 1099511627776) (hx : IntsAt w a xs) :
    Calls Try.prog 19 #[.slice a xs.length cap] w fun e w' => e = .returned (.bool (serversOk xs)) ∧ w = w' := by
  by_cases h8 : xs.length ≤ 8
  · have F : Hid (serversOk xs = ascFrom 0 xs) := Lib.hid (by rw [serversOk, decide_eq_true h8]; rfl)
    go_enter Try.func19, Try.ntmps19
    go_wp2_with fail
    refine (idsAscend_calls _ _ _ _ hm hx).mono ?_
    rintro e w' ⟨rfl, rfl⟩
    go_wp2_with fail
    go_ret
    exact ⟨ret_bool F.out.symm, rfl⟩
  · have F : Hid (serversOk xs = false) := Lib.hid (by rw [serversOk, decide_eq_false h8]; rfl)
    go_enter Try.func19, Try.ntmps19
    go_wp2_with fail
    go_ret
    exact ⟨ret_bool F.out.symm, rfl⟩

set_option maxHeartbeats 4000000 in
theorem spec_servers (a : Option Addr) (cap : Nat) (xs : List Int) (w : World) (hm : xs.length ≤ 1099511627776) (hx : IntsAt w a xs) :
    Calls Try.prog 29 #[.slice a xs.length cap] w fun e w' => e = .returned (.bool (serversOk xs)) ∧ Below w.heap.size w w' := by
  go_enter Try.func29, Try.ntmps29
  go_wp2_with fail
  go_loopw [3] (fun i wr => ∃ (k n : Nat), k ≤ xs.length ∧ i = .int .i64 k ∧ ascFrom (prev xs k) (xs.drop k) = ascFrom 0 xs ∧ wr = w.drewN n) (fun i _ => xs.length - (intOf i).toNat)
  case atStart => exact ⟨0, 0, Nat.zero_le _, rfl, rfl, rfl⟩
  case round =>
    obtain ⟨k, n, hk, rfl, hn, rfl⟩ := hrel
    by_cases hlt : k < xs.length
    · rcases hx with rfl | ⟨b, off, rfl, hc⟩
      · simp at hlt
      have hcell : w.cell? ⟨b, off + k, none⟩ = some (.int .i64 xs[k]) := by
        have := hc k hlt
        simpa [hlt] using this
      have i1 : (0 : Int) ≤ (k : Int) := by omega
      have i2 : (k : Int) < (xs.length : Int) := by omega
      rw [asc_drop hlt] at hn
      have NX := Lib.hid (prev_succ xs k hlt)
      by_cases hv : 1 ≤ xs[k] ∧ xs[k] ≤ 99
      · rw [decide_eq_true hv] at hn
        have YES := Lib.hid (fun w => l6In_yes xs[k] 1 99 w hv)
        cases k with
        | zero =>
          have HL : decide (prev xs 0 < xs[0]) = true := by simp [prev]; omega
          rw [HL] at hn
          have HN := Lib.hid hn
          clear hv hc hn HL NX
          have hcell : w.cell? ⟨b, off, none⟩ = some (.int .i64 xs[0]) := hcell
          generalize xs[0] = y at *
          go_wp2_with fail
          go_quiet ((go_at_call 30; exact quiet_at (YES.out _)))
          go_wp2_with fail
          go_roundw
          case rel => exact ⟨1, _, hlt, by go_num, by rw [← HN.out]; rfl, rfl⟩
          case measure => simp [intOf]; omega
        | succ k =>
          have hlt0 : k < xs.length := by omega
          have hcell0 : w.cell? ⟨b, off + k, none⟩ = some (.int .i64 xs[k]) := by
            have := hc k hlt0
            simpa [hlt0] using this
          rw [prev_succ xs k hlt0] at hn
          clear hv hc NX
          generalize xs[k + 1] = y at *
          generalize xs[k] = z at *
          have i3 : (0 : Int) ≤ (k : Int) := by omega
          have i4 : (k : Int) < (xs.length : Int) := by omega
          have HN := Lib.hid hn
          clear hn
          have hz0 : (0 : Int) < (k : Int) + 1 := by omega
          by_cases hz : z < y
          · have hd : decide (y ≤ z) = false := decide_eq_false (by omega)
            go_wp2_with fail
            go_quiet ((go_at_call 30; exact quiet_at (YES.out _)))
            go_wp2_with fail
            go_roundw
            case rel => exact ⟨k + 2, _, hlt, by go_num, by rw [← HN.out, decide_eq_true hz]; rfl, rfl⟩
            case measure => simp [intOf]; omega
          · have hd : decide (y ≤ z) = true := decide_eq_true (by omega)
            have hA : ascFrom 0 xs = false := by rw [← HN.out, decide_eq_false hz]; rfl
            have HA := Lib.hid hA
            clear hA hz
            go_wp2_with fail
            go_quiet ((go_at_call 30; exact quiet_at (YES.out _)))
            go_wp2_with fail
            go_ret
            exact ⟨ret_bool (by rw [serversOk, HA.out, Bool.and_false]), below_drewN (below_drewN (Below.refl _ _) _) _⟩
      · have HX := Lib.hid (fun w => l6In_no xs[k] 1 99 w hv)
        rw [decide_eq_false hv] at hn
        have HA := Lib.hid (show ascFrom 0 xs = false from hn.symm)
        clear hv hc hn NX
        generalize xs[k] = y at *
        go_wp2_with fail
        go_quiet ((go_at_call 30; exact quiet_at (HX.out _)))
        go_wp2_with fail
        go_ret
        exact ⟨ret_bool (by rw [serversOk, HA.out, Bool.and_false]), below_drewN (below_drewN (Below.refl _ _) _) _⟩
    · have HA := Lib.hid (show ascFrom 0 xs = true by rw [← hn, List.drop_eq_nil_of_le (by omega)]; rfl)
      clear hn
      go_wp2_with fail
      go_ret
      exact ⟨ret_bool (by rw [serversOk, HA.out, Bool.and_true]; exact decide_eq_decide.2 (by omega)), below_drewN (Below.refl _ _) _⟩

def piecesOk (xs : List Int) : Bool := decide (xs.length ≤ 12) && ascFrom 0 xs
set_option maxHeartbeats 4000000 in
theorem spec_pieces (a : Option Addr) (cap : Nat) (xs : List Int) (w : World) (hm : xs.length ≤ 1099511627776) (hx : IntsAt w a xs) :
    Calls Try.prog 28 #[.slice a xs.length cap] w fun e w' => e = .returned (.bool (piecesOk xs)) ∧ Below w.heap.size w w' := by
  go_enter Try.func28, Try.ntmps28
  go_wp2_with fail
  go_loopw [3] (fun i wr => ∃ (k n : Nat), k ≤ xs.length ∧ i = .int .i64 k ∧ ascFrom (prev xs k) (xs.drop k) = ascFrom 0 xs ∧ wr = w.drewN n) (fun i _ => xs.length - (intOf i).toNat)
  case atStart => exact ⟨0, 0, Nat.zero_le _, rfl, rfl, rfl⟩
  case round =>
    obtain ⟨k, n, hk, rfl, hn, rfl⟩ := hrel
    by_cases hlt : k < xs.length
    · rcases hx with rfl | ⟨b, off, rfl, hc⟩
      · simp at hlt
      have hcell : w.cell? ⟨b, off + k, none⟩ = some (.int .i64 xs[k]) := by
        have := hc k hlt
        simpa [hlt] using this
      have i1 : (0 : Int) ≤ (k : Int) := by omega
      have i2 : (k : Int) < (xs.length : Int) := by omega
      rw [asc_drop hlt] at hn
      have NX := Lib.hid (prev_succ xs k hlt)
      by_cases hv : 1 ≤ xs[k] ∧ xs[k] ≤ 99
      · rw [decide_eq_true hv] at hn
        have YES := Lib.hid (fun w => l6In_yes xs[k] 1 99 w hv)
        cases k with
        | zero =>
          have HL : decide (prev xs 0 < xs[0]) = true := by simp [prev]; omega
          rw [HL] at hn
          have HN := Lib.hid hn
          clear hv hc hn HL NX
          have hcell : w.cell? ⟨b, off, none⟩ = some (.int .i64 xs[0]) := hcell
          generalize xs[0] = y at *
          go_wp2_with fail
          go_quiet ((go_at_call 30; exact quiet_at (YES.out _)))
          go_wp2_with fail
          go_roundw
          case rel => exact ⟨1, _, hlt, by go_num, by rw [← HN.out]; rfl, rfl⟩
          case measure => simp [intOf]; omega
        | succ k =>
          have hlt0 : k < xs.length := by omega
          have hcell0 : w.cell? ⟨b, off + k, none⟩ = some (.int .i64 xs[k]) := by
            have := hc k hlt0
            simpa [hlt0] using this
          rw [prev_succ xs k hlt0] at hn
          clear hv hc NX
          generalize xs[k + 1] = y at *
          generalize xs[k] = z at *
          have i3 : (0 : Int) ≤ (k : Int) := by omega
          have i4 : (k : Int) < (xs.length : Int) := by omega
          have HN := Lib.hid hn
          clear hn
          have hz0 : (0 : Int) < (k : Int) + 1 := by omega
          by_cases hz : z < y
          · have hd : decide (y ≤ z) = false := decide_eq_false (by omega)
            go_wp2_with fail
            go_quiet ((go_at_call 30; exact quiet_at (YES.out _)))
            go_wp2_with fail
            go_roundw
            case rel => exact ⟨k + 2, _, hlt, by go_num, by rw [← HN.out, decide_eq_true hz]; rfl, rfl⟩
            case measure => simp [intOf]; omega
          · have hd : decide (y ≤ z) = true := decide_eq_true (by omega)
            have hA : ascFrom 0 xs = false := by rw [← HN.out, decide_eq_false hz]; rfl
            have HA := Lib.hid hA
            clear hA hz
            go_wp2_with fail
            go_quiet ((go_at_call 30; exact quiet_at (YES.out _)))
            go_wp2_with fail
            go_ret
            exact ⟨ret_bool (by rw [piecesOk, HA.out, Bool.and_false]), below_drewN (below_drewN (Below.refl _ _) _) _⟩
      · have HX := Lib.hid (fun w => l6In_no xs[k] 1 99 w hv)
        rw [decide_eq_false hv] at hn
        have HA := Lib.hid (show ascFrom 0 xs = false from hn.symm)
        clear hv hc hn NX
        generalize xs[k] = y at *
        go_wp2_with fail
        go_quiet ((go_at_call 30; exact quiet_at (HX.out _)))
        go_wp2_with fail
        go_ret
        exact ⟨ret_bool (by rw [piecesOk, HA.out, Bool.and_false]), below_drewN (below_drewN (Below.refl _ _) _) _⟩
    · have HA := Lib.hid (show ascFrom 0 xs = true by rw [← hn, List.drop_eq_nil_of_le (by omega)]; rfl)
      clear hn
      go_wp2_with fail
      go_ret
      exact ⟨ret_bool (by rw [piecesOk, HA.out, Bool.and_true]; exact decide_eq_decide.2 (by omega)), below_drewN (Below.refl _ _) _⟩

end Go.Proofs.Ytebklbncfcdkmaa
