/-
  The walk of FnRunState.
-/
import Derived.Test.YtgdbphgcpcihcaaD7
import Derived.Test.YtgdbphgcpcihcaaB6
import Derived.Test.YtgdbphgcpcihcaaP7
import Derived.Test.YtgdbphgcpcihcaaSb
namespace Go.Proofs.Ytgdbphgcpcihcaa.fnRunState
open Go.RowKit Go.Proofs.Ytgdbphgcpcihcaa

/-- What the law asks of a run that is in order. -/
theorem run_good_keys {many : Int} {s : List Int} {us : List Upd} (h : runOk many s us = true) : (runState many s us).length = 5 ∧ s.length = 5 ∧ (stateAt us us.length).length = 5 ∧ ∀ i, i < 5 →
    (0 ≤ (stateAt us us.length).getD i 0 → (runState many s us).getD i 0 = (stateAt us us.length).getD i 0) ∧ ((stateAt us us.length).getD i 0 < 0 → (runState many s us).getD i 0 = s.getD i 0) := by
  have e : runState many s us = runTo s us us.length := by rw [runState, if_pos h]
  rw [runOk, Bool.and_eq_true, Bool.and_eq_true] at h
  obtain ⟨⟨h1, h2⟩, _⟩ := h
  obtain ⟨_, hs, _⟩ := baseOk_parts h1
  rw [e, stateAt_yes h2 (Nat.le_refl _)]
  refine ⟨run_len5 us _ hs, stateOk_len hs, run_len5 us _ empty5_ok, fun i hi => run_keys hs h2 i hi us.length (Nat.le_refl _)⟩
theorem runLen {many : Int} {s : List Int} {us : List Upd} (h : s.length ≤ 5) : (runState many s us).length ≤ 5 := by
  unfold runState
  split
  · rw [runTo_len]; exact h
  · simp

set_option maxHeartbeats 4000000 in
theorem walk (a0 : Option Addr) (len0 cap0 : Nat) (z0 : List Int) (w : World) (w0 : IsRow .u8 w a0 len0 cap0 z0) :
    Calls Try.prog 5 #[.slice a0 len0 cap0] w fun e w' => e = .returned (.bool true) ∧ Below w.heap.size w w' := by
  have hle := w0.le
  have hby := w0.bytes
  clear w0
  by_cases hbig : len0 ≤ 1048576
  · go_enter Try.func5, Try.ntmps5
    go_wp2_with fail
    refine (drawBaseRun_calls _ _ _ _ hle.1 hle.2 hby).mono ?_
    rintro e w1 ⟨many, a, cap, s, a1, cap1, us, rfl, hsl, hul, hcap, hx, hy, hb1⟩
    have hm : s.length ≤ 1099511627776 := by omega
    have hu : us.length ≤ 1099511627776 := by omega
    have HB := Lib.hid (fun W R (k : St w1 W R) => hb1.trans (k.below.mono hb1.size))
    have s1 := (St.start w1).alloc (.cells #[.int .i64 many, .slice a s.length cap] 29)
    have IM := Lib.hid (fun W h1 h2 => baseRun_calls a a1 cap cap1 many s us W hm hu h1 h2)
    have SP := Lib.hid (fun W h1 h2 => specBaseRun_calls a a1 cap cap1 many s us W hm hu h1 h2)
    have SO := Lib.hid (fun W h1 => stateOf_calls a1 cap1 us W hu hcap h1)
    have hrl := runLen (many := many) (us := us) hsl
    have GK := Lib.hid (@run_good_keys many s us)
    unfold MadeInts at SO
    unfold RanBase at IM SP
    clear hby hb1
    generalize runMany many s us = nn at *
    generalize runState many s us = rs at *
    generalize hst : stateAt us us.length = zs at *
    clear hst
    have hr2 : rs.length ≤ 1099511627776 := by omega
    go_wp2_with fail
    refine (IM.out _ (hx.below s1.below) (hy.below s1.below)).mono ?_
    rintro e w2 ⟨a2, cap2, rfl, ho2, hb2⟩
    have s2 := s1.fresh hb2 ho2 (Nat.le_refl _)
    have s3 := s2.alloc (.cells #[.int .i64 nn, .slice a2 rs.length cap2] 29)
    obtain ⟨c2, _⟩ := s2.at1.cells
    have l2 := s2.at1.lt.2
    clear s1 hb2 ho2
    go_wp2_with fail
    refine (SP.out _ (hx.below s3.below) (hy.below s3.below)).mono ?_
    rintro e w4 ⟨a4, cap4, rfl, ho4, hb4⟩
    have s4 := s3.fresh hb4 ho4 (Nat.le_refl _)
    have s5 := s4.alloc (.cells #[.int .i64 nn, .slice a4 rs.length cap4] 29)
    obtain ⟨c4, _⟩ := s4.at1.cells
    have l4 := s4.at1.lt.2
    clear s2 s3 ho4 hb4 c2 l2
    cases hok : runOk many s us with
    | false =>
      clear hok
      go_wp2_with fail
      refine (sameBase_eq _ _ _ _ _ _ _ hr2 (own_intsR s5.drop.drop.drop.own) (own_intsR s5.drop.own)).mono ?_
      rintro e w6 ⟨rfl, hb6⟩
      have s6 := s5.call hb6
      obtain ⟨c6, _⟩ := s6.cells
      obtain ⟨d6, _⟩ := s6.drop.drop.cells
      clear s4 s5 hb6 c4 l4
      go_wp2_with fail
      refine (sameBase_eq _ _ _ _ _ _ _ hr2 (own_intsR s6.drop.drop.drop.own) (own_intsR s6.drop.own)).mono ?_
      rintro e w7 ⟨rfl, hb7⟩
      have s7 := s6.call hb7
      go_wp2_with fail
      go_ret
      exact ⟨rfl, HB.out _ _ s7⟩
    | true =>
      have GD := Lib.hid (GK.out hok)
      clear hok GK
      go_wp2_with fail
      refine (sameBase_eq _ _ _ _ _ _ _ hr2 (own_intsR s5.drop.drop.drop.own) (own_intsR s5.drop.own)).mono ?_
      rintro e w6 ⟨rfl, hb6⟩
      have s6 := s5.call hb6
      clear s4 s5 hb6 c4 l4
      go_wp2_with fail
      refine (SO.out _ (hy.below s6.below)).mono ?_
      rintro e w7 ⟨a7, cap7, rfl, ho7, hb7⟩
      have s7 := s6.fresh hb7 ho7 (Nat.le_refl _)
      obtain ⟨c7, _⟩ := s7.drop.drop.drop.cells
      obtain ⟨d7, _⟩ := s7.drop.drop.drop.drop.drop.cells
      have ix := hx.below s7.below
      have ir := own_intsR s7.drop.drop.drop.drop.own
      have iz := own_intsR s7.own
      have hE := Lib.hid (HB.out _ _ s7)
      obtain ⟨r5, x5, z5, hk⟩ := GD.out
      have R5 := Lib.hid r5; have X5 := Lib.hid x5; have Z5 := Lib.hid z5; have HK := Lib.hid hk
      clear s6 s7 ho7 hb7 GD r5 x5 z5 hk hx hy
      go_wp2_with fail
      go_loopw [10] (fun i wr => ∃ k n : Nat, k ≤ 5 ∧ i = .int .i64 k ∧ wr = w7.drewN n) (fun i _ => 5 - (intOf i).toNat)
      case atStart => exact ⟨0, 0, Nat.zero_le _, rfl, rfl⟩
      case round =>
        obtain ⟨k, n, hk, rfl, rfl⟩ := hrel
        by_cases hlt : k < 5
        · have h1 : k < rs.length := by rw [R5.out]; exact hlt
          have h2 : k < s.length := by rw [X5.out]; exact hlt
          have h3 : k < zs.length := by rw [Z5.out]; exact hlt
          obtain ⟨b1, o1, rfl, e1⟩ := ir.resolve_left (by intro e; rw [e] at h1; simp at h1)
          obtain ⟨b2, o2, rfl, e2⟩ := ix.resolve_left (by intro e; rw [e] at h2; simp at h2)
          obtain ⟨b3, o3, rfl, e3⟩ := iz.resolve_left (by intro e; rw [e] at h3; simp at h3)
          have v1 := e1 k h1
          have v2 := e2 k h2
          have v3 := e3 k h3
          obtain ⟨g1, g2⟩ := HK.out k hlt
          have i1 : (0 : Int) ≤ (k : Int) := by omega
          have i2 : (k : Int) < (rs.length : Int) := by omega
          have i3 : (k : Int) < (s.length : Int) := by omega
          have i4 : (k : Int) < (zs.length : Int) := by omega
          clear e1 e2 e3 h1 h2 h3
          generalize rs.getD k 0 = r at *
          generalize s.getD k 0 = x at *
          generalize zs.getD k 0 = z at *
          by_cases hz : 0 ≤ z
          · obtain rfl := g1 hz
            have hd1 : decide (0 ≤ r) = true := decide_eq_true hz
            have hd2 : decide (r < 0) = false := decide_eq_false (by omega)
            have hd3 : (r != r) = false := by simp
            clear g1 g2
            go_wp2_with fail
            go_quiet (fail)
            go_wp2_with fail
            go_roundw
            case rel => exact ⟨k + 1, _, hlt, by go_num, rfl⟩
            case measure => simp [intOf]; omega
          · have hz' : z < 0 := by omega
            obtain rfl := g2 hz'
            have hz2 : decide (0 ≤ z) = false := decide_eq_false hz
            clear g1 g2 hz
            go_wp2_with fail
            go_quiet (fail)
            go_wp2_with fail
            go_roundw
            case rel => exact ⟨k + 1, _, hlt, by go_num, rfl⟩
            case measure => simp [intOf]; omega
        · obtain rfl : k = 5 := by omega
          have e5 : (rs.length : Int) = 5 := by rw [R5.out]; rfl
          go_wp2_with fail
          go_ret
          exact ⟨rfl, below_drewN hE.out _⟩
  · go_enter Try.func5, Try.ntmps5
    go_wp2_with fail
    go_ret
    exact ⟨rfl, Below.refl _ _⟩

end Go.Proofs.Ytgdbphgcpcihcaa.fnRunState
