/-
  The walks of BaseOld, the program's and the reference's. No statement is proved here.
-/
import Derived.Test.YtgdbphgcpcihcaaB2
import Derived.Test.YtgdbphgcpcihcaaSn
import Derived.Deep.RegionHeld3
namespace Go.Proofs.Ytgdbphgcpcihcaa
open Go.RowKit

def oldOf (many : Int) (s : List Int) (us : List Upd) : Bool := baseOk many s && logOk us && (decide ((us.length : Int) < many) || !decide (stateAt us many = s))
theorem old_bad1 {many : Int} {s : List Int} {us : List Upd} (h : baseOk many s = false) : oldOf many s us = false := by rw [oldOf, h]; rfl
theorem old_bad2 {many : Int} {s : List Int} {us : List Upd} (h : logOk us = false) : oldOf many s us = false := by rw [oldOf, h, Bool.and_false]; rfl
theorem old_long {many : Int} {s : List Int} {us : List Upd} (h1 : baseOk many s = true) (h2 : logOk us = true) (h : (us.length : Int) < many) : oldOf many s us = true := by rw [oldOf, h1, h2, decide_eq_true h]; rfl
theorem old_rest {many : Int} {s : List Int} {us : List Upd} (h1 : baseOk many s = true) (h2 : logOk us = true) (h : ¬ (us.length : Int) < many) : oldOf many s us = !decide (stateAt us many = s) := by rw [oldOf, h1, h2, decide_eq_false h]; rfl
theorem baseOk_parts {many : Int} {s : List Int} (h : baseOk many s = true) : (0 ≤ many ∧ many ≤ 999) ∧ stateOk s = true ∧ (someOf s : Int) ≤ many ∧ (0 < (someOf s : Int) ↔ 0 < many) := by
  rw [baseOk, Bool.and_eq_true, Bool.and_eq_true, Bool.and_eq_true, decide_eq_true_eq, decide_eq_true_eq, beq_iff_eq, decide_eq_decide] at h
  exact ⟨h.1.1.1, h.1.1.2, h.1.2, h.2⟩

set_option maxHeartbeats 2000000 in
theorem baseOld_calls (a a1 : Option Addr) (cap cap1 : Nat) (many : Int) (s : List Int) (us : List Upd) (w : World) (hm : s.length ≤ 1099511627776) (hu : us.length ≤ 1099511627776) (hc : us.length ≤ cap1) (hx : IntsAt w a s) (hy : UpdsAt w a1 us) :
    Calls Try.prog 16 #[.agg #[.int .i64 many, .slice a s.length cap], .slice a1 us.length cap1] w fun e w' => e = .returned (.bool (oldOf many s us)) ∧ Below w.heap.size w w' := by
  have s0 := (St.start w).alloc (.cells #[.int .i64 many, .slice a s.length cap] 29)
  cases hb : baseOk many s with
  | false =>
    have F := Lib.hid (old_bad1 (us := us) hb)
    have HV := Lib.hid hb
    clear hb
    go_enter Try.func16, Try.ntmps16
    go_wp2_with fail
    refine (baseValid_calls _ _ _ _ _ hm (hx.below s0.below)).mono ?_
    rw [HV.out]
    rintro e w1 ⟨rfl, hb1⟩
    go_wp2_with fail
    go_ret
    exact ⟨ret_bool (by rw [F.out]), (s0.call hb1).below⟩
  | true =>
    obtain ⟨⟨hm0, hm1⟩, _⟩ := baseOk_parts hb
    cases hl : logOk us with
    | false =>
      have F := Lib.hid (old_bad2 (many := many) (s := s) hl)
      have HV := Lib.hid hb; have HL := Lib.hid hl
      clear hb hl
      go_enter Try.func16, Try.ntmps16
      go_wp2_with fail
      refine (baseValid_calls _ _ _ _ _ hm (hx.below s0.below)).mono ?_
      rw [HV.out]
      rintro e w1 ⟨rfl, hb1⟩
      have s1 := s0.call hb1
      go_wp2_with fail
      refine (logValid_calls _ _ _ _ hu (hy.below s1.below)).mono ?_
      rw [HL.out]
      rintro e w2 ⟨rfl, hb2⟩
      go_wp2_with fail
      go_ret
      exact ⟨ret_bool (by rw [F.out]), (s1.call hb2).below⟩
    | true =>
      by_cases hlen : (us.length : Int) < many
      all_goals
        have FL := Lib.hid (fun h => old_long hb hl h)
        have FR := Lib.hid (fun h => old_rest hb hl h)
        have HV := Lib.hid hb; have HL := Lib.hid hl
        have SL : Hid ((stateAt us many).length ≤ 5) := Lib.hid (by
          unfold stateAt
          split
          · rw [runTo_len]; exact Nat.le_refl 5
          · simp)
        clear hb hl
        go_enter Try.func16, Try.ntmps16
        go_wp2_with fail
        refine (baseValid_calls _ _ _ _ _ hm (hx.below s0.below)).mono ?_
        rw [HV.out]
        rintro e w1 ⟨rfl, hb1⟩
        have s1 := s0.call hb1
        go_wp2_with fail
        refine (logValid_calls _ _ _ _ hu (hy.below s1.below)).mono ?_
        rw [HL.out]
        rintro e w2 ⟨rfl, hb2⟩
        have s2 := s1.call hb2
        have k0 := s2.cells.1 0
        have k1 := s2.cells.1 1
        simp at k0 k1
        have l2 := s2.lt.2
        have hx2 := hx.below s2.below
        have hy2 := hy.below s2.below
        clear s0 s1 hb1 hb2
        go_wp2_with fail
      · have F := Lib.hid (FL.out hlen)
        have hd : decide ((us.length : Int) < many) = true := decide_eq_true hlen
        go_quiet (fail)
        go_wp2_with fail
        go_ret
        exact ⟨ret_bool (by rw [F.out]), below_drewN s2.below _⟩
      · have F := Lib.hid (FR.out (by omega))
        have hd : decide ((us.length : Int) < many) = false := decide_eq_false (by omega)
        have SA := Lib.hid (fun W (h : UpdsAt W a1 us) => stateAt_calls a1 cap1 us many W hu hc h)
        generalize stateAt us many = st at *
        have sl := SL.out
        go_region_held3 (fun w' => w'.cell? ⟨w.heap.size, 0, none⟩ = some (.int .i64 many) ∧ w'.cell? ⟨w.heap.size, 1, none⟩ = some (.slice a s.length cap))
          (first | go_keep | assumption | (go_split_ands; exact ⟨e0, e1⟩) | (go_split_ands; exact ⟨f0, f1⟩))
          ((first | (go_at_call 32; refine (SA.out _ (by exact hy2)).mono ?_; rintro e w3 ⟨a3, cap3, rfl, ho3, hb3'⟩; have hb3 := drew_below hb3'; have s3 := s2.call hb3; have e0 := (hb3.cell (p := ⟨w.heap.size, 0, none⟩) l2).trans k0; have e1 := (hb3.cell (p := ⟨w.heap.size, 1, none⟩) l2).trans k1) | (go_at_call 49; refine (sameNumbers_calls _ _ _ _ _ _ _ (by omega) hm (by exact own_intsR ho3) (by exact hx2.below hb3)).mono ?_; rintro e w4 ⟨rfl, hb4⟩; have s4 := s3.call hb4; have z := hb3.size; have f0 := (hb4.cell (p := ⟨w.heap.size, 0, none⟩) (Nat.lt_of_lt_of_le l2 z)).trans e0; have f1 := (hb4.cell (p := ⟨w.heap.size, 1, none⟩) (Nat.lt_of_lt_of_le l2 z)).trans e1)))
        go_wp2_with fail
        go_ret
        exact ⟨ret_bool (by rw [F.out]), s4.below⟩

set_option maxHeartbeats 2000000 in
theorem specBaseOld_calls (a a1 : Option Addr) (cap cap1 : Nat) (many : Int) (s : List Int) (us : List Upd) (w : World) (hm : s.length ≤ 1099511627776) (hu : us.length ≤ 1099511627776) (hx : IntsAt w a s) (hy : UpdsAt w a1 us) :
    Calls Try.prog 18 #[.agg #[.int .i64 many, .slice a s.length cap], .slice a1 us.length cap1] w fun e w' => e = .returned (.bool (oldOf many s us)) ∧ Below w.heap.size w w' := by
  have s0 := (St.start w).alloc (.cells #[.int .i64 many, .slice a s.length cap] 29)
  cases hb : baseOk many s with
  | false =>
    have F := Lib.hid (old_bad1 (us := us) hb)
    have HV := Lib.hid hb
    clear hb
    go_enter Try.func18, Try.ntmps18
    go_wp2_with fail
    refine (specBaseValid_calls _ _ _ _ _ hm (hx.below s0.below)).mono ?_
    rw [HV.out]
    rintro e w1 ⟨rfl, hb1⟩
    go_wp2_with fail
    go_ret
    exact ⟨ret_bool (by rw [F.out]), (s0.call hb1).below⟩
  | true =>
    obtain ⟨⟨hm0, hm1⟩, hso, _⟩ := baseOk_parts hb
    have hs5 := stateOk_len hso
    cases hl : logOk us with
    | false =>
      have F := Lib.hid (old_bad2 (many := many) (s := s) hl)
      have HV := Lib.hid hb; have HL := Lib.hid hl
      clear hb hl hso hs5
      go_enter Try.func18, Try.ntmps18
      go_wp2_with fail
      refine (specBaseValid_calls _ _ _ _ _ hm (hx.below s0.below)).mono ?_
      rw [HV.out]
      rintro e w1 ⟨rfl, hb1⟩
      have s1 := s0.call hb1
      go_wp2_with fail
      refine (specLogValid_calls _ _ _ _ hu (hy.below s1.below)).mono ?_
      rw [HL.out]
      rintro e w2 ⟨rfl, hb2⟩
      go_wp2_with fail
      go_ret
      exact ⟨ret_bool (by rw [F.out]), (s1.call hb2).below⟩
    | true =>
      have HV := Lib.hid hb; have HL := Lib.hid hl
      have FL := Lib.hid (fun h => old_long hb hl h)
      have FR := Lib.hid (fun h => old_rest hb hl h)
      have HS5 := Lib.hid hs5
      have l5 : s.length ≤ 5 := by omega
      have l6 : 5 ≤ s.length := by omega
      clear hb hl hso hs5
      by_cases hlen : (us.length : Int) < many
      · have F := Lib.hid (FL.out hlen)
        go_enter Try.func18, Try.ntmps18
        go_wp2_with fail
        refine (specBaseValid_calls _ _ _ _ _ hm (hx.below s0.below)).mono ?_
        rw [HV.out]
        rintro e w1 ⟨rfl, hb1⟩
        have s1 := s0.call hb1
        go_wp2_with fail
        refine (specLogValid_calls _ _ _ _ hu (hy.below s1.below)).mono ?_
        rw [HL.out]
        rintro e w2 ⟨rfl, hb2⟩
        have s2 := s1.call hb2
        obtain ⟨c2, _⟩ := s2.cells
        go_wp2_with fail
        go_ret
        exact ⟨ret_bool (by rw [F.out]), s2.below⟩
      · obtain ⟨k0, rfl⟩ := Int.eq_ofNat_of_zero_le hm0
        have hk0 : k0 ≤ us.length := by omega
        have F : Hid (oldOf k0 s us = !decide (runTo empty5 us k0 = s)) := Lib.hid (by rw [FR.out hlen, stateAt_yes HL.out hk0])
        have RL := Lib.hid (runTo_len empty5 us k0)
        have LA := Lib.hid (fun W (h : UpdsAt W a1 us) => l2At_calls a1 cap1 us k0 W hu h HL.out hk0)
        generalize runTo empty5 us k0 = st at *
        have hst : st.length ≤ 5 := by rw [RL.out]; exact Nat.le_refl 5
        have hst2 : 5 ≤ st.length := by rw [RL.out]; exact Nat.le_refl 5
        go_enter Try.func18, Try.ntmps18
        go_wp2_with fail
        refine (specBaseValid_calls _ _ _ _ _ hm (hx.below s0.below)).mono ?_
        rw [HV.out]
        rintro e w1 ⟨rfl, hb1⟩
        have s1 := s0.call hb1
        go_wp2_with fail
        refine (specLogValid_calls _ _ _ _ hu (hy.below s1.below)).mono ?_
        rw [HL.out]
        rintro e w2 ⟨rfl, hb2⟩
        have s2 := s1.call hb2
        obtain ⟨c2, _⟩ := s2.cells
        go_wp2_with fail
        refine (LA.out _ (hy.below s2.below)).mono ?_
        rintro e w3 ⟨a3, cap3, rfl, ho3, hb3⟩
        have s3 := (s2.call hb3)
        have i3 := own_intsR ho3
        have hx3 := hx.below s3.below
        clear s0 s1 s2 hb1 hb2 c2 hb3 ho3
        go_wp2_with fail
        go_loopw [6] (fun i wr => ∃ k n : Nat, k ≤ st.length ∧ i = .int .i64 k ∧ st.take k = s.take k ∧ wr = w3.drewN n) (fun i _ => st.length - (intOf i).toNat)
        case atStart => exact ⟨0, 0, Nat.zero_le _, rfl, by simp, rfl⟩
        case round =>
          obtain ⟨k, n, hk, rfl, heq, rfl⟩ := hrel
          have HE := Lib.hid heq
          have k1 := s3.cells.1 1
          simp at k1
          clear heq
          by_cases hlt : k < st.length
          · have hlt' : k < s.length := by omega
            rcases id i3 with rfl | ⟨b, off, rfl, hc⟩
            · simp at hlt
            rcases id hx3 with rfl | ⟨b', off', rfl, hc'⟩
            · simp at hlt'
            have hcell := hc k hlt
            have hcell' := hc' k hlt'
            have i1 : (0 : Int) ≤ (k : Int) := by omega
            have i2 : (k : Int) < (st.length : Int) := by omega
            have i4 : (k : Int) < (s.length : Int) := by omega
            have ST := Lib.hid (fun h => take_eq_snoc HE.out hlt hlt' h)
            have NE := Lib.hid (fun h => ne_at hlt hlt' h)
            clear hc hc'
            simp only [List.getD, List.getElem?_eq_getElem hlt, List.getElem?_eq_getElem hlt', Option.getD_some] at hcell hcell'
            generalize hy0 : st[k] = y0 at *
            generalize hy1 : s[k] = y1 at *
            clear hy0 hy1
            cases h1 : (y0 != y1) with
            | true =>
              have NE' := Lib.hid (NE.out (by simpa using h1))
              go_wp2_with fail
              go_quiet (fail)
              go_wp2_with fail
              go_ret
              exact ⟨ret_bool (by rw [F.out, decide_eq_false NE'.out]; rfl), below_drewN (below_drewN s3.below _) _⟩
            | false =>
              have ST' := Lib.hid (ST.out (by simpa using h1))
              go_wp2_with fail
              go_quiet (fail)
              go_wp2_with fail
              go_roundw
              case rel => exact ⟨k + 1, _, hlt, by go_num, ST'.out, rfl⟩
              case measure => simp [intOf]; omega
          · have EQ : Hid (st = s) := Lib.hid (by
              have := HE.out
              rw [List.take_of_length_le (by omega), List.take_of_length_le (by omega)] at this
              exact this)
            go_wp2_with fail
            go_ret
            exact ⟨ret_bool (by rw [F.out, decide_eq_true EQ.out]; rfl), below_drewN s3.below _⟩

end Go.Proofs.Ytgdbphgcpcihcaa
