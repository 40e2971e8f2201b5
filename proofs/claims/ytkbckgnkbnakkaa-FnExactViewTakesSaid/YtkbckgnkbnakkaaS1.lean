/-
  The walks of the laws' own functions on lists of ints: sameInts, eqIntS, hasInt. No statement is proved here.
-/
import Derived.Test.YtkbckgnkbnakkaaV2
namespace Go.Proofs.Ytkbckgnkbnakkaa
open Go.RowKit

theorem take_eq_snoc {xs ys : List Int} {k : Nat} (h : xs.take k = ys.take k) (hx : k < xs.length) (hy : k < ys.length) (he : xs[k] = ys[k]) : xs.take (k + 1) = ys.take (k + 1) := by
  rw [take_snoc' xs k hx, take_snoc' ys k hy, h, he]
theorem ne_at {xs ys : List Int} {k : Nat} (hx : k < xs.length) (hy : k < ys.length) (he : xs[k] ≠ ys[k]) : xs ≠ ys := by
  intro e; subst e; exact he rfl

set_option maxHeartbeats 1000000 in
theorem sameInts_calls (a a' : Option Addr) (cap cap' : Nat) (xs ys : List Int) (w : World) (hm : xs.length ≤ 1099511627776) (hm' : ys.length ≤ 1099511627776) (hx : IntsAt w a xs) (hy : IntsAt w a' ys) :
    Calls Try.prog 27 #[.slice a xs.length cap, .slice a' ys.length cap'] w fun e w' => e = .returned (.bool (decide (xs = ys))) ∧ Below w.heap.size w w' := by
  by_cases hlen : xs.length = ys.length
  · have HL := Lib.hid hlen
    have hl1 : ((xs.length : Int) != (ys.length : Int)) = false := by rw [bne_eq_false_iff_eq]; omega
    have hl2 : ys.length ≤ xs.length := by omega
    have hl3 : xs.length ≤ ys.length := by omega
    clear hlen
    go_enter Try.func27, Try.ntmps27
    go_wp2_with fail
    go_loopw [5] (fun i wr => ∃ k n : Nat, k ≤ xs.length ∧ i = .int .i64 k ∧ xs.take k = ys.take k ∧ wr = w.drewN n) (fun i _ => xs.length - (intOf i).toNat)
    case atStart => exact ⟨0, 0, Nat.zero_le _, rfl, by simp, rfl⟩
    case round =>
      obtain ⟨k, n, hk, rfl, heq, rfl⟩ := hrel
      have HE := Lib.hid heq
      clear heq
      by_cases hlt : k < xs.length
      · have hlt' : k < ys.length := by omega
        rcases id hx with rfl | ⟨b, off, rfl, hc⟩
        · simp at hlt
        rcases id hy with rfl | ⟨b', off', rfl, hc'⟩
        · simp at hlt'
        have hcell := hc k hlt
        have hcell' := hc' k hlt'
        have i1 : (0 : Int) ≤ (k : Int) := by omega
        have i2 : (k : Int) < (xs.length : Int) := by omega
        have i3 : (k : Int) < (ys.length : Int) := by omega
        have ST := Lib.hid (fun h => take_eq_snoc HE.out hlt hlt' h)
        have NE := Lib.hid (fun h => ne_at hlt hlt' h)
        clear hc hc'
        simp only [List.getD, List.getElem?_eq_getElem hlt, List.getElem?_eq_getElem hlt', Option.getD_some] at hcell hcell'
        generalize hy0 : xs[k] = y0 at *
        generalize hy1 : ys[k] = y1 at *
        clear hy0 hy1
        cases h1 : (y0 != y1) with
        | true =>
          go_wp2_with fail
          go_quiet (fail)
          go_wp2_with fail
          go_ret
          exact ⟨by rw [decide_eq_false (NE.out (by simpa using h1))]; rfl, below_drewN (below_drewN (Below.refl _ _) _) _⟩
        | false =>
          go_wp2_with fail
          go_quiet (fail)
          go_wp2_with fail
          go_roundw
          case rel => exact ⟨k + 1, _, hlt, by go_num, ST.out (by simpa using h1), rfl⟩
          case measure => simp [intOf]; omega
      · go_wp2_with fail
        go_ret
        have := HE.out
        rw [List.take_of_length_le (by omega), List.take_of_length_le (by omega)] at this
        exact ⟨by rw [decide_eq_true this]; rfl, below_drewN (Below.refl _ _) _⟩
  · have hl1 : ((xs.length : Int) != (ys.length : Int)) = true := by rw [bne_iff_ne]; omega
    have hne : decide (xs = ys) = false := decide_eq_false (fun e => hlen (by rw [e]))
    rw [hne]
    clear hlen hne
    go_enter Try.func27, Try.ntmps27
    go_wp2_with fail
    go_ret
    exact ⟨rfl, Below.refl _ _⟩

set_option maxHeartbeats 1000000 in
theorem eqIntS_calls (a a' : Option Addr) (cap cap' : Nat) (xs ys : List Int) (w : World) (hm : xs.length ≤ 1099511627776) (hm' : ys.length ≤ 1099511627776) (hx : IntsAt w a xs) (hy : IntsAt w a' ys) :
    Calls Try.prog 31 #[.slice a xs.length cap, .slice a' ys.length cap'] w fun e w' => e = .returned (.bool (decide (xs = ys))) ∧ Below w.heap.size w w' := by
  by_cases hlen : xs.length = ys.length
  · have HL := Lib.hid hlen
    have hl1 : ((xs.length : Int) != (ys.length : Int)) = false := by rw [bne_eq_false_iff_eq]; omega
    have hl2 : ys.length ≤ xs.length := by omega
    have hl3 : xs.length ≤ ys.length := by omega
    clear hlen
    go_enter Try.func31, Try.ntmps31
    go_wp2_with fail
    go_loopw [5] (fun i wr => ∃ k n : Nat, k ≤ xs.length ∧ i = .int .i64 k ∧ xs.take k = ys.take k ∧ wr = w.drewN n) (fun i _ => xs.length - (intOf i).toNat)
    case atStart => exact ⟨0, 0, Nat.zero_le _, rfl, by simp, rfl⟩
    case round =>
      obtain ⟨k, n, hk, rfl, heq, rfl⟩ := hrel
      have HE := Lib.hid heq
      clear heq
      by_cases hlt : k < xs.length
      · have hlt' : k < ys.length := by omega
        rcases id hx with rfl | ⟨b, off, rfl, hc⟩
        · simp at hlt
        rcases id hy with rfl | ⟨b', off', rfl, hc'⟩
        · simp at hlt'
        have hcell := hc k hlt
        have hcell' := hc' k hlt'
        have i1 : (0 : Int) ≤ (k : Int) := by omega
        have i2 : (k : Int) < (xs.length : Int) := by omega
        have i3 : (k : Int) < (ys.length : Int) := by omega
        have ST := Lib.hid (fun h => take_eq_snoc HE.out hlt hlt' h)
        have NE := Lib.hid (fun h => ne_at hlt hlt' h)
        clear hc hc'
        simp only [List.getD, List.getElem?_eq_getElem hlt, List.getElem?_eq_getElem hlt', Option.getD_some] at hcell hcell'
        generalize hy0 : xs[k] = y0 at *
        generalize hy1 : ys[k] = y1 at *
        clear hy0 hy1
        cases h1 : (y0 != y1) with
        | true =>
          go_wp2_with fail
          go_quiet (fail)
          go_wp2_with fail
          go_ret
          exact ⟨by rw [decide_eq_false (NE.out (by simpa using h1))]; rfl, below_drewN (below_drewN (Below.refl _ _) _) _⟩
        | false =>
          go_wp2_with fail
          go_quiet (fail)
          go_wp2_with fail
          go_roundw
          case rel => exact ⟨k + 1, _, hlt, by go_num, ST.out (by simpa using h1), rfl⟩
          case measure => simp [intOf]; omega
      · go_wp2_with fail
        go_ret
        have := HE.out
        rw [List.take_of_length_le (by omega), List.take_of_length_le (by omega)] at this
        exact ⟨by rw [decide_eq_true this]; rfl, below_drewN (Below.refl _ _) _⟩
  · have hl1 : ((xs.length : Int) != (ys.length : Int)) = true := by rw [bne_iff_ne]; omega
    have hne : decide (xs = ys) = false := decide_eq_false (fun e => hlen (by rw [e]))
    rw [hne]
    clear hlen hne
    go_enter Try.func31, Try.ntmps31
    go_wp2_with fail
    go_ret
    exact ⟨rfl, Below.refl _ _⟩


theorem has_at {xs : List Int} {n : Int} {k : Nat} (hk : k < xs.length) (he : xs[k] = n) : decide (n ∈ xs) = true := decide_eq_true (he ▸ List.getElem_mem hk)
theorem has_not {xs : List Int} {n : Int} (h : ∀ j, j < xs.length → xs.getD j 0 ≠ n) : decide (n ∈ xs) = false := by
  rw [decide_eq_false_iff_not]
  intro hm
  obtain ⟨j, hj, e⟩ := List.getElem_of_mem hm
  exact h j hj (by simp [hj, e])

set_option maxHeartbeats 400000 in
theorem hasInt_calls (a : Option Addr) (cap : Nat) (xs : List Int) (n : Int) (w : World) (hm : xs.length ≤ 1099511627776) (hx : IntsAt w a xs) :
    Calls Try.prog 40 #[.slice a xs.length cap, .int .i64 n] w fun e w' => e = .returned (.bool (decide (n ∈ xs))) ∧ w = w' := by
  go_enter Try.func40, Try.ntmps40
  go_wp2
  go_loop [5] (fun i => ∃ k : Nat, k ≤ xs.length ∧ i = .int .i64 k ∧ ∀ j, j < k → xs.getD j 0 ≠ n) (fun i => xs.length - (intOf i).toNat)
  case atStart => exact ⟨0, Nat.zero_le _, rfl, by intro j hj; omega⟩
  case round =>
    obtain ⟨k, hk, rfl, hn⟩ := hrel
    by_cases hlt : k < xs.length
    · rcases hx with rfl | ⟨b, off, rfl, hc⟩
      · simp at hlt
      have hcell := hc k hlt
      have HN := Lib.hid hn; clear hn hc
      go_wp2
      · have he : (xs[k] == n) = true := by assumption
        go_ret
        exact ⟨by rw [has_at hlt (by simpa using he)]; rfl, rfl⟩
      · have he : (xs[k] == n) = false := by assumption
        go_round
        case rel =>
          refine ⟨k + 1, hlt, by go_num, fun j hj => ?_⟩
          by_cases e : j = k
          · subst e; simpa [hlt] using he
          · exact HN.out j (by omega)
        case measure => simp [intOf]; omega
    · have HN := Lib.hid hn; clear hn
      go_wp2
      go_ret
      exact ⟨by rw [has_not (fun j hj => HN.out j (by omega))]; rfl, rfl⟩

set_option maxHeartbeats 1000000 in
theorem sameView_calls (a a' : Option Addr) (cap cap' : Nat) (num num' : Int) (xs ys : List Int) (w : World) (hm : xs.length ≤ 1099511627776) (hm' : ys.length ≤ 1099511627776) (hx : IntsAt w a xs) (hy : IntsAt w a' ys) :
    Calls Try.prog 39 #[.agg #[.int .i64 num, .slice a xs.length cap], .agg #[.int .i64 num', .slice a' ys.length cap']] w fun e w' => e = .returned (.bool (decide (num = num') && decide (xs = ys))) ∧ Below w.heap.size w w' := by
  have hB1 : Below w.heap.size w (w.alloc (.cells #[.int .i64 num, .slice a xs.length cap] 25)) := (Below.refl _ _).alloc (Nat.le_refl _) _
  have hB2 : Below w.heap.size w ((w.alloc (.cells #[.int .i64 num, .slice a xs.length cap] 25)).alloc (.cells #[.int .i64 num', .slice a' ys.length cap'] 25)) := hB1.alloc (by simp) _
  have hx2 := hx.below hB2
  have hy2 := hy.below hB2
  by_cases hn : num = num'
  · have h1 : (num == num') = true := by simpa using hn
    rw [decide_eq_true hn, Bool.true_and]
    clear hn
    go_enter Try.func39, Try.ntmps39
    go_wp2_with fail
    refine (sameInts_calls _ _ _ _ _ _ _ hm hm' hx2 hy2).mono ?_
    rintro e w1 ⟨rfl, hb⟩
    go_wp2_with fail
    go_ret
    exact ⟨rfl, hB2.trans (hb.mono (by simp; omega))⟩
  · have h1 : (num == num') = false := by simpa using hn
    rw [decide_eq_false hn, Bool.false_and]
    clear hn
    go_enter Try.func39, Try.ntmps39
    go_wp2_with fail
    go_ret
    exact ⟨rfl, hB2⟩

theorem ints_drop {w : World} {g o : Nat} {ys : List Int} (h : IntsAt w (some ⟨g, o, none⟩) ys) (c : Nat) : IntsAt w (some ⟨g, o + c, none⟩) (ys.drop c) := by
  by_cases hc : c < ys.length
  · rcases h with rfl | ⟨b, off, e, hcell⟩
    · simp at hc
    · cases e
      refine .inr ⟨g, o + c, rfl, fun j hj => ?_⟩
      simp at hj
      rw [Nat.add_assoc, hcell (c + j) (by omega)]
      simp [List.getD]
  · exact .inl (List.drop_of_length_le (by omega))
theorem sameInts_eq (a a' : Option Addr) (cap cap' : Nat) (xs : List Int) (w : World) (hm : xs.length ≤ 1099511627776) (hx : IntsAt w a xs) (hy : IntsAt w a' xs) :
    Calls Try.prog 27 #[.slice a xs.length cap, .slice a' xs.length cap'] w fun e w' => e = .returned (.bool true) ∧ Below w.heap.size w w' := by
  refine (sameInts_calls a a' cap cap' xs xs w hm hm hx hy).mono ?_
  rintro e w' ⟨rfl, hb⟩
  exact ⟨by simp, hb⟩
theorem hasInt_yes (a : Option Addr) (cap : Nat) (xs : List Int) (n : Int) (w : World) (hm : xs.length ≤ 1099511627776) (hx : IntsAt w a xs) (h : n ∈ xs) :
    Calls Try.prog 40 #[.slice a xs.length cap, .int .i64 n] w fun e w' => e = .returned (.bool true) ∧ w = w' := by
  have := hasInt_calls a cap xs n w hm hx
  rw [decide_eq_true h] at this; exact this
theorem hasInt_no (a : Option Addr) (cap : Nat) (xs : List Int) (n : Int) (w : World) (hm : xs.length ≤ 1099511627776) (hx : IntsAt w a xs) (h : n ∉ xs) :
    Calls Try.prog 40 #[.slice a xs.length cap, .int .i64 n] w fun e w' => e = .returned (.bool false) ∧ w = w' := by
  have := hasInt_calls a cap xs n w hm hx
  rw [decide_eq_false h] at this; exact this
theorem sameView_eq (a a' : Option Addr) (cap cap' : Nat) (num : Int) (xs : List Int) (w : World) (hm : xs.length ≤ 1099511627776) (hx : IntsAt w a xs) (hy : IntsAt w a' xs) :
    Calls Try.prog 39 #[.agg #[.int .i64 num, .slice a xs.length cap], .agg #[.int .i64 num, .slice a' xs.length cap']] w fun e w' => e = .returned (.bool true) ∧ Below w.heap.size w w' := by
  refine (sameView_calls a a' cap cap' num num xs xs w hm hm hx hy).mono ?_
  rintro e w' ⟨rfl, hb⟩
  exact ⟨by simp, hb⟩

end Go.Proofs.Ytkbckgnkbnakkaa
