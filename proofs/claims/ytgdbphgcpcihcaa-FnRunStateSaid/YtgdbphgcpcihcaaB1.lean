/-
  The walks of the functions on states: new, put, list, from, valid, StateAt, StateOf. No statement is proved here.
-/
import Derived.Test.YtgdbphgcpcihcaaU2
import Derived.Test.YtgdbphgcpcihcaaCp
import Derived.Test.YtgdbphgcpcihcaaP6
namespace Go.Proofs.Ytgdbphgcpcihcaa
open Go.RowKit

theorem ints_cells {w : World} {a : Option Addr} {xs : List Int} (h : IntsAt w a xs) : CellsAt w a (xs.map (Value.int .i64)) := by
  rcases h with rfl | ⟨b, off, rfl, hc⟩
  · exact .inl rfl
  · refine .inr ⟨b, off, rfl, fun j hj => ?_⟩
    simp at hj
    rw [hc j hj]; simp [List.getD, hj]
abbrev arr (s : List Int) : Array Value := (s.map (Value.int .i64)).toArray
theorem arr_set (s : List Int) (k : Nat) (v : Int) : (arr s).setIfInBounds k (.int .i64 v) = arr (s.set k v) := by
  simp [arr, List.map_set]
theorem arr_at (s : List Int) (k : Nat) (h : k < s.length) : (arr s)[k]? = some (.int .i64 s[k]) := by simp [arr, h]
theorem all_int (s : List Int) : ∀ v ∈ s.map (Value.int .i64), v.oneCell' = true := by
  intro v hv
  simp at hv
  obtain ⟨x, _, rfl⟩ := hv
  rfl

set_option maxHeartbeats 1000000 in
theorem newState_st {w0 w : World} {rs : List Res} (h : St w0 w rs) :
    Calls Try.prog 67 #[] w fun e w' => ∃ g, e = .returned (.pointer (some ⟨g, 0, none⟩)) ∧ St w0 w' (box g (arr empty5) 97 :: rs) := by
  have s0 := h.alloc (.cells (arr [0, 0, 0, 0, 0]) 97)
  go_enter Try.func67, Try.ntmps67
  go_wp2_with fail
  go_loopw [2, 4] (fun _ i wr => ∃ (k : Nat) (s : List Int), k ≤ 5 ∧ i = .int .i64 k ∧ s.length = 5 ∧ s.take k = List.replicate k (-1) ∧ St w0 wr (box w.heap.size (arr s) 97 :: rs)) (fun _ i _ => 5 - (intOf i).toNat)
  case atStart => exact ⟨0, [0, 0, 0, 0, 0], Nat.zero_le _, rfl, rfl, rfl, s0⟩
  case round =>
    clear s0
    obtain ⟨k, s, hk, rfl, hl, ht, s1⟩ := hrel
    have HT := Lib.hid ht
    have HL := Lib.hid hl
    have hl1 : s.length ≤ 5 := by omega
    have hl2 : 5 ≤ s.length := by omega
    clear ht hl
    by_cases hlt : k < 5
    · have c1 := (s1.cells.1 k).trans (arr_at s k (by omega))
      have f1 := s1.cells.2 k
      have i1 : (0 : Int) ≤ (k : Int) := by omega
      have i2 : (k : Int) < 5 := by omega
      have s2 := s1.set k (.int .i64 (-1))
      rw [arr_set] at s2
      go_wp2_with fail
      go_roundw
      case rel => exact ⟨k + 1, s.set k (-1), hlt, by go_num, by simp [HL.out], by rw [take_set_snoc _ _ _ (by omega), HT.out]; exact List.replicate_succ'.symm, s2⟩
      case measure => simp [intOf]; omega
    · have es : s = empty5 := by
        have := HT.out
        rw [List.take_of_length_le (by omega), show k = 5 by omega] at this
        exact this
      subst es
      go_wp2_with fail
      go_ret
      exact ⟨_, rfl, s1⟩

set_option maxHeartbeats 1000000 in
theorem put_st {w0 w : World} {rs : List Res} (g : Nat) (s : List Int) (k v : Int) (h : St w0 w (box g (arr s) 97 :: rs)) (hl : s.length = 5) (hk : 0 ≤ k ∧ k ≤ 4) :
    Calls Try.prog 60 #[.pointer (some ⟨g, 0, none⟩), .agg #[.int .i64 k, .int .i64 v]] w fun e w' => e = .returned (.tuple #[]) ∧ St w0 w' (box g (arr (s.set k.toNat v)) 97 :: rs) := by
  obtain ⟨j, rfl⟩ := Int.eq_ofNat_of_zero_le hk.1
  have hj : j < s.length := by omega
  have lg := h.lt.2
  have c1 := (h.cells.1 j).trans (arr_at s j hj)
  have f1 := h.cells.2 j
  have i1 : (0 : Int) ≤ (j : Int) := by omega
  have i2 : (j : Int) < 5 := by omega
  have s2 := ((h.set j (.int .i64 v)).alloc (.cells #[.int .i64 j, .int .i64 v] 67)).drop.drew
  rw [arr_set] at s2
  clear hl
  go_enter Try.func60, Try.ntmps60
  go_wp2_with fail
  go_region
  all_goals
    go_end0
    exact ⟨rfl, s2⟩

theorem info_int1 : (Try.prog.info? 3).map (·.size) = some 1 := by kernel_rfl

set_option maxRecDepth 100000 in
set_option maxHeartbeats 1000000 in
theorem list_st {w0 w : World} {rs : List Res} (g : Nat) (s : List Int) (h : St w0 w (box g (arr s) 97 :: rs)) (hl : s.length = 5) :
    Calls Try.prog 61 #[.pointer (some ⟨g, 0, none⟩)] w fun e w' => ∃ (a : Option Addr) (cap : Nat), e = .returned (.slice a s.length cap) ∧ St w0 w' (row (.slice a s.length cap) 3 1 s.length (s.map (Value.int .i64)) :: box g (arr s) 97 :: rs) := by
  have s1 := h.alloc (.cells #[.int .i64 0, .int .i64 0, .int .i64 0, .int .i64 0, .int .i64 0] 3)
  have hmk := make_five
  have lg := h.lt.2
  have hsrc : CellsAt (w.alloc (.cells #[.int .i64 0, .int .i64 0, .int .i64 0, .int .i64 0, .int .i64 0] 3)) (some ⟨g, 0, none⟩) (s.map (Value.int .i64)) :=
    .inr ⟨g, 0, rfl, fun j hj => by rw [Nat.zero_add, s1.at1.cells.1 j]; simp [arr]⟩
  have HL := Lib.hid hl
  clear hl
  go_enter Try.func61, Try.ntmps61
  go_wp2_with (refine list_copy (by rfl) (.tmp 5) (.tmp 8) 27 27 (by rfl) 3 1 Try.underlying27 info_int1 w.heap.size 5 5 5 (some ⟨g, 0, none⟩) (by rfl) (by rfl) (s.map (Value.int .i64)) _ 3 (by simp [HL.out]) hsrc s1.boxAt (by simp [HL.out]) (all_int s) ?_)
  intro w' hh hg
  have s2 := s1.boxTo hg hh
  have e : (s.map (Value.int .i64) ++ List.drop s.length [Value.int .i64 0, .int .i64 0, .int .i64 0, .int .i64 0, .int .i64 0]) = s.map (Value.int .i64) := by
    simp [HL.out]
  rw [e] at s2
  have s3 := s2.madeRow 1 5 (by simp [HL.out]) (by simp [maxLen]) 5 (Nat.le_refl _)
  have e2 : (s.map (Value.int .i64)).toArray.toList.take (5 * 1) = s.map (Value.int .i64) := by
    rw [List.take_of_length_le (by simp [HL.out])]
  rw [e2] at s3
  have FIN : Hid (∃ (a : Option Addr) (cap : Nat), Ending.returned (.slice (some ⟨w.heap.size, 0, none⟩) 5 5) = .returned (.slice a s.length cap) ∧ St w0 w' (row (.slice a s.length cap) 3 1 s.length (s.map (Value.int .i64)) :: box g (arr s) 97 :: rs)) :=
    Lib.hid ⟨some ⟨w.heap.size, 0, none⟩, 5, by rw [HL.out], by rw [HL.out]; exact s3⟩
  clear hh hg s2 s3 e e2 s1 hsrc hmk
  go_wp2_with fail
  go_ret
  exact FIN.out

set_option maxRecDepth 100000 in
set_option maxHeartbeats 1000000 in
theorem stateFrom_st {w0 w : World} {rs : List Res} (a : Option Addr) (cap : Nat) (s : List Int) (h : St w0 w rs) (hx : IntsAt w a s) (hl : s.length = 5) :
    Calls Try.prog 57 #[.slice a s.length cap] w fun e w' => ∃ g, e = .returned (.pointer (some ⟨g, 0, none⟩)) ∧ St w0 w' (box g (arr s) 97 :: rs) := by
  have s1 := h.alloc (.cells (arr [0, 0, 0, 0, 0]) 97)
  have hsrc := ints_cells (hx.below ((Below.refl _ _).alloc (Nat.le_refl _) (.cells (arr [0, 0, 0, 0, 0]) 97)))
  have HL := Lib.hid hl
  rw [hl]
  clear hl
  go_enter Try.func57, Try.ntmps57
  go_wp2_with (refine list_copy (by rfl) (.tmp 7) (.tmp 8) 27 27 (by rfl) 3 1 Try.underlying27 info_int1 w.heap.size 5 5 cap a (by rfl) (by rfl) (s.map (Value.int .i64)) _ 97 (by simp [HL.out]) hsrc s1.boxAt (by simp [HL.out, arr]) (all_int s) ?_)
  intro w' hh hg
  have s2 := s1.boxTo hg hh
  have e : (s.map (Value.int .i64) ++ List.drop s.length [Value.int .i64 0, .int .i64 0, .int .i64 0, .int .i64 0, .int .i64 0]) = s.map (Value.int .i64) := by
    simp [HL.out]
  rw [e] at s2
  clear hh hg e s1 hsrc hx
  go_wp2_with fail
  go_ret
  exact ⟨_, rfl, s2⟩

set_option maxHeartbeats 1000000 in
theorem stateAt_calls (a : Option Addr) (cap : Nat) (us : List Upd) (many : Int) (w : World) (hm : us.length ≤ 1099511627776) (hc : us.length ≤ cap) (hx : UpdsAt w a us) :
    Calls Try.prog 32 #[.slice a us.length cap, .int .i64 many] w (MadeInts w (stateAt us many)) := by
  have bad : ∀ w1, Below w.heap.size w w1 → St w (w1.alloc (.cells #[] 3)) [row (.slice (some ⟨w1.heap.size, 0, none⟩) 0 0) 3 1 0 []] := fun w1 hb =>
    (((St.start w).call hb).alloc (.cells #[] 3)).madeRow 1 0 rfl (by simp [maxLen]) 0 (Nat.le_refl _)
  have BAD := Lib.hid bad
  clear bad
  cases hv : logOk us with
  | false =>
    have F := Lib.hid (stateAt_no (us := us) (many := many) (by rw [hv]; simp))
    have HV := Lib.hid hv
    clear hv
    go_enter Try.func32, Try.ntmps32
    go_wp2_with fail
    refine (logValid_calls _ _ _ _ hm hx).mono ?_
    rw [HV.out]
    rintro e w1 ⟨rfl, hb⟩
    go_wp2_with fail
    go_ret
    exact madeInts (ys := []) (BAD.out _ hb) F.out
  | true =>
    obtain ⟨hl12, hall⟩ := logOk_all hv
    have HALL := Lib.hid hall
    have HV := Lib.hid hv
    clear hv hall
    by_cases h0 : 0 ≤ many
    · by_cases h1 : many ≤ us.length
      · obtain ⟨k0, rfl⟩ := Int.eq_ofNat_of_zero_le h0
        have hk0 : k0 ≤ us.length := by omega
        have F := Lib.hid (stateAt_yes HV.out hk0)
        have hkc : k0 ≤ cap := by omega
        have kc1 : (k0 : Int) ≤ (cap : Int) := by omega
        go_enter Try.func32, Try.ntmps32
        go_wp2_with fail
        refine (logValid_calls _ _ _ _ hm hx).mono ?_
        rw [HV.out]
        rintro e w1 ⟨rfl, hb⟩
        have s1 := (St.start w).call hb
        go_wp2_with fail
        refine (newState_st s1).mono ?_
        rintro e w2 ⟨g, rfl, s2⟩
        go_wp2_with fail
        go_loopw [7, 27] (fun _ i wr => ∃ k : Nat, k ≤ k0 ∧ i = .int .i64 k ∧ St w wr [box g (arr (runTo empty5 us k)) 97]) (fun _ i _ => k0 - (intOf i).toNat)
        case atStart => exact ⟨0, Nat.zero_le _, rfl, s2⟩
        case round =>
          clear s1 s2 hb
          obtain ⟨k, hk, rfl, s3⟩ := hrel
          by_cases hlt : k < k0
          · have hlu : k < us.length := by omega
            obtain ⟨b, off, rfl, c0, c1⟩ := (hx.below s3.below).cells k hlu
            have hu := updOk_yes (HALL.out k hlu)
            have RS := Lib.hid (runTo_succ empty5 us k hlu)
            have RL := Lib.hid (runTo_len empty5 us k)
            have i1 : (0 : Int) ≤ (k : Int) := by omega
            have i2 : (k : Int) < (k0 : Int) := by omega
            obtain ⟨u1, u2, u3, u4⟩ := hu
            generalize us[k].1 = p at *
            generalize us[k].2 = q at *
            generalize runTo empty5 us k = s at *
            have s4 := (s3.alloc (.cells #[.int .i64 p, .int .i64 q] 67)).at1
            have PU := Lib.hid (put_st g s p q s4 (by rw [RL.out]; rfl) ⟨u1, u2⟩)
            go_wp2_with fail
            refine PU.out.mono ?_
            rintro e w5 ⟨rfl, s5⟩
            go_wp2_with fail
            go_roundw
            case rel => exact ⟨k + 1, hlt, by go_num, by rw [RS.out]; exact s5.under St.drop (by simp)⟩
            case measure => simp [intOf]; omega
          · obtain rfl : k = k0 := by omega
            have RL := Lib.hid (runTo_len empty5 us k)
            have LI := Lib.hid (list_st g (runTo empty5 us k) s3 (by rw [RL.out]; rfl))
            generalize runTo empty5 us k = s at *
            go_wp2_with fail
            refine LI.out.mono ?_
            rintro e w5 ⟨b, capb, rfl, s5⟩
            go_wp2_with fail
            go_ret
            exact madeInts (s5.under St.drop (by simp)) F.out
      · have F := Lib.hid (stateAt_no (us := us) (many := many) (by omega))
        have h1' : (us.length : Int) < many := by omega
        go_enter Try.func32, Try.ntmps32
        go_wp2_with fail
        refine (logValid_calls _ _ _ _ hm hx).mono ?_
        rw [HV.out]
        rintro e w1 ⟨rfl, hb⟩
        go_wp2_with fail
        go_ret
        exact madeInts (ys := []) (BAD.out _ hb) F.out
    · have F := Lib.hid (stateAt_no (us := us) (many := many) (by omega))
      have h0' : many < 0 := by omega
      go_enter Try.func32, Try.ntmps32
      go_wp2_with fail
      refine (logValid_calls _ _ _ _ hm hx).mono ?_
      rw [HV.out]
      rintro e w1 ⟨rfl, hb⟩
      go_wp2_with fail
      go_ret
      exact madeInts (ys := []) (BAD.out _ hb) F.out

theorem stateOf_calls (a : Option Addr) (cap : Nat) (us : List Upd) (w : World) (hm : us.length ≤ 1099511627776) (hc : us.length ≤ cap) (hx : UpdsAt w a us) :
    Calls Try.prog 24 #[.slice a us.length cap] w (MadeInts w (stateAt us us.length)) := by
  go_enter Try.func24, Try.ntmps24
  go_wp2_with fail
  refine (stateAt_calls a cap us us.length w hm hc hx).mono ?_
  rintro e w1 ⟨b, capb, rfl, ho, hb⟩
  go_wp2_with fail
  go_ret
  exact ⟨b, capb, rfl, ho, hb⟩

set_option maxHeartbeats 1000000 in
theorem stateValid_calls (a : Option Addr) (cap : Nat) (s : List Int) (w : World) (hm : s.length ≤ 1099511627776) (hx : IntsAt w a s) :
    Calls Try.prog 73 #[.slice a s.length cap] w fun e w' => e = .returned (.bool (stateOk s)) ∧ w = w' := by
  by_cases hl : s.length = 5
  · have HL := Lib.hid hl
    have e1 : ((s.length : Int) != 5) = false := by rw [bne_eq_false_iff_eq]; omega
    have l1 : 5 ≤ s.length := by omega
    have l2 : s.length ≤ 5 := by omega
    clear hl
    go_enter Try.func73, Try.ntmps73
    go_wp2_with fail
    go_loop [4, 10] (fun _ i => ∃ k : Nat, k ≤ s.length ∧ i = .int .i64 k ∧ ∀ j, (hj : j < s.length) → j < k → -1 ≤ s[j] ∧ s[j] ≤ 99) (fun _ i => s.length - (intOf i).toNat)
    case atStart => exact ⟨0, Nat.zero_le _, rfl, fun _ _ h => by omega⟩
    case round =>
      obtain ⟨k, hk, rfl, ha⟩ := hrel
      have HA := Lib.hid ha
      clear ha
      by_cases hlt : k < s.length
      · rcases hx with rfl | ⟨b, off, rfl, hc⟩
        · simp at hlt
        have hcell := hc k hlt
        simp only [List.getD, List.getElem?_eq_getElem hlt, Option.getD_some] at hcell
        have BAD := Lib.hid (stateOk_bad2 k hlt)
        have GOOD := Lib.hid (fun (h : -1 ≤ s[k] ∧ s[k] ≤ 99) (j : Nat) (hj : j < s.length) (hjk : j < k + 1) => (by
          by_cases e : j = k
          · subst e; exact h
          · exact HA.out j hj (by omega) : -1 ≤ s[j] ∧ s[j] ≤ 99))
        clear hc
        generalize s[k] = x at *
        by_cases h1 : -1 ≤ x
        · by_cases h2 : x ≤ 99
          · go_wp2_with fail
            go_round
            case rel => exact ⟨k + 1, hlt, by go_num, GOOD.out ⟨h1, h2⟩⟩
            case measure => simp [intOf]; omega
          · have h2' : 99 < x := by omega
            go_wp2_with fail
            go_ret
            exact ⟨ret_bool (by rw [BAD.out (by omega)]), rfl⟩
        · have h1' : x < -1 := by omega
          go_wp2_with fail
          go_ret
          exact ⟨ret_bool (by rw [BAD.out (by omega)]), rfl⟩
      · go_wp2_with fail
        go_ret
        exact ⟨ret_bool (by rw [stateOk_good HL.out (fun j hj => HA.out j hj (by omega))]), rfl⟩
  · have F := Lib.hid (stateOk_bad1 hl)
    have e1 : ((s.length : Int) != 5) = true := by rw [bne_iff_ne]; omega
    clear hl
    go_enter Try.func73, Try.ntmps73
    go_wp2_with fail
    go_ret
    exact ⟨ret_bool (by rw [F.out]), rfl⟩

set_option maxHeartbeats 1000000 in
theorem specStateValid_calls (a : Option Addr) (cap : Nat) (s : List Int) (w : World) (hm : s.length ≤ 1099511627776) (hx : IntsAt w a s) :
    Calls Try.prog 54 #[.slice a s.length cap] w fun e w' => e = .returned (.bool (stateOk s)) ∧ w = w' := by
  go_enter Try.func54, Try.ntmps54
  go_wp2_with fail
  go_loop [3] (fun i => ∃ k : Nat, k ≤ s.length ∧ i = .int .i64 k ∧ ∀ j, (hj : j < s.length) → j < k → -1 ≤ s[j] ∧ s[j] ≤ 99) (fun i => s.length - (intOf i).toNat)
  case atStart => exact ⟨0, Nat.zero_le _, rfl, fun _ _ h => by omega⟩
  case round =>
    obtain ⟨k, hk, rfl, ha⟩ := hrel
    have HA := Lib.hid ha
    clear ha
    by_cases hlt : k < s.length
    · rcases hx with rfl | ⟨b, off, rfl, hc⟩
      · simp at hlt
      have hcell := hc k hlt
      simp only [List.getD, List.getElem?_eq_getElem hlt, Option.getD_some] at hcell
      have BAD := Lib.hid (stateOk_bad2 k hlt)
      have GOOD := Lib.hid (fun (h : -1 ≤ s[k] ∧ s[k] ≤ 99) (j : Nat) (hj : j < s.length) (hjk : j < k + 1) => (by
        by_cases e : j = k
        · subst e; exact h
        · exact HA.out j hj (by omega) : -1 ≤ s[j] ∧ s[j] ≤ 99))
      have i1 : (0 : Int) ≤ (k : Int) := by omega
      have i2 : (k : Int) < (s.length : Int) := by omega
      clear hc
      generalize s[k] = x at *
      by_cases h1 : -1 ≤ x ∧ x ≤ 99
      · have HX := Lib.hid h1
        clear h1
        go_wp2_with fail
        refine (l6In_yes _ _ _ _ HX.out).mono ?_
        rintro e w' ⟨rfl, rfl⟩
        go_wp2_with fail
        go_round
        case rel => exact ⟨k + 1, hlt, by go_num, GOOD.out HX.out⟩
        case measure => simp [intOf]; omega
      · have HX := Lib.hid h1
        clear h1
        go_wp2_with fail
        refine (l6In_no _ _ _ _ HX.out).mono ?_
        rintro e w' ⟨rfl, rfl⟩
        go_wp2_with fail
        go_ret
        exact ⟨ret_bool (by rw [BAD.out HX.out]), rfl⟩
    · by_cases hl : s.length = 5
      · have F := Lib.hid (stateOk_good hl (fun j hj => HA.out j hj (by omega)))
        have e1 : ((s.length : Int) == 5) = true := by rw [beq_iff_eq]; omega
        clear hl
        go_wp2_with fail
        go_ret
        exact ⟨ret_bool (by rw [F.out]), rfl⟩
      · have F := Lib.hid (stateOk_bad1 hl)
        have e1 : ((s.length : Int) == 5) = false := by rw [beq_eq_false_iff_ne]; omega
        clear hl
        go_wp2_with fail
        go_ret
        exact ⟨ret_bool (by rw [F.out]), rfl⟩

set_option maxHeartbeats 1000000 in
theorem l2Empty_calls (w : World) : Calls Try.prog 72 #[] w fun e w' => ∃ g cap, e = .returned (.slice (some ⟨g, 0, none⟩) 5 cap) ∧ St w w' [row (.slice (some ⟨g, 0, none⟩) 5 cap) 3 1 5 (empty5.map (Value.int .i64))] := by
  have s0 := ((St.start w).alloc (.cells #[] 3)).madeRow 1 0 rfl (by simp [maxLen]) 0 (Nat.le_refl _)
  go_enter Try.func72, Try.ntmps72
  go_wp2_with fail
  go_loopw [1, 2] (fun v i wr => ∃ k : Nat, k ≤ 5 ∧ i = .int .i64 k ∧ St w wr [row v 3 1 k ((List.replicate k (-1 : Int)).map (Value.int .i64))]) (fun _ i _ => 5 - (intOf i).toNat)
  case atStart => exact ⟨0, Nat.zero_le _, rfl, s0⟩
  case round =>
    clear s0
    obtain ⟨k, hk, rfl, s1⟩ := hrel
    by_cases hlt : k < 5
    · have o1 := s1.own
      have z1 := s1.size
      go_wp2_with ((at_builtin; refine list_app elem_int (by rfl) _ _ (by rfl) w.heap.size u1 k ((List.replicate k (-1 : Int)).map (Value.int .i64)) (by rfl) wr.heap.size 1 1 (by rfl) #[.int .i64 (-1)] 3 (0, 0) (by rfl) (by simp [Value.oneCell']) (by omega) (by omega) (by omega) (heap_alloc_new wr _) (o1.alloc _) (by simp; omega) ?_); intro gg cap3 w7 hown hgrow hat hl)
      have s2 := s1.app (World.grownBy_alloc wr _ none) hown hgrow hat hl
      clear hown hgrow hat hl o1 s1
      go_wp2_with fail
      go_roundw
      case rel => exact ⟨k + 1, hlt, by go_num, by rw [List.replicate_succ']; simpa using s2⟩
      case measure => simp [intOf]; omega
    · obtain rfl : k = 5 := by omega
      obtain ⟨g, cap, rfl, _⟩ := s1.own.form (by omega)
      go_wp2_with fail
      go_ret
      exact ⟨g, cap, rfl, s1⟩

theorem run_setRow {s : List Int} {k : Nat} {v : Int} : (s.map (Value.int .i64)).set k (.int .i64 v) = (s.set k v).map (Value.int .i64) := by rw [List.map_set]

set_option maxHeartbeats 1000000 in
theorem l2At_calls (a : Option Addr) (cap : Nat) (us : List Upd) (k0 : Nat) (w : World) (hm : us.length ≤ 1099511627776) (hx : UpdsAt w a us) (hv : logOk us = true) (hk0 : k0 ≤ us.length) :
    Calls Try.prog 46 #[.slice a us.length cap, .int .i64 k0] w (MadeInts w (runTo empty5 us k0)) := by
  obtain ⟨hl12, hall⟩ := logOk_all hv
  have HALL := Lib.hid hall
  clear hv hall
  go_enter Try.func46, Try.ntmps46
  go_wp2_with fail
  refine (l2Empty_calls _).mono ?_
  rintro e w1 ⟨g, capg, rfl, s1⟩
  go_wp2_with fail
  go_loopw [6] (fun i wr => ∃ k : Nat, k ≤ k0 ∧ i = .int .i64 k ∧ St w wr [row (.slice (some ⟨g, 0, none⟩) 5 capg) 3 1 5 ((runTo empty5 us k).map (Value.int .i64))]) (fun i _ => k0 - (intOf i).toNat)
  case atStart => exact ⟨0, Nat.zero_le _, rfl, s1⟩
  case round =>
    clear s1
    obtain ⟨k, hk, rfl, s3⟩ := hrel
    by_cases hlt : k < k0
    · have hlu : k < us.length := by omega
      obtain ⟨b, off, rfl, c0, c1⟩ := (hx.below s3.below).cells k hlu
      obtain ⟨u1, u2, u3, u4⟩ := updOk_yes (HALL.out k hlu)
      have RS := Lib.hid (runTo_succ empty5 us k hlu)
      have RL := Lib.hid (runTo_len empty5 us k)
      have i1 : (0 : Int) ≤ (k : Int) := by omega
      have i2 : (k : Int) < (us.length : Int) := by omega
      obtain ⟨j, hj⟩ := Int.eq_ofNat_of_zero_le u1
      have hj5 : j < 5 := by omega
      have cj := s3.own.cellAt j (by omega)
      have fj := s3.own.frozenAt j
      rw [List.getElem?_eq_getElem (by rw [List.length_map, RL.out]; exact hj5)] at cj
      have s4 := s3.drew.rowSet j (.int .i64 us[k].2)
      rw [run_setRow] at s4
      rw [hj] at c0
      have RS2 : Hid (runTo empty5 us (k + 1) = (runTo empty5 us k).set j us[k].2) := Lib.hid (by rw [RS.out, hj]; rfl)
      clear hj RS u1 u2
      generalize us[k].2 = q at *
      have i3 : (0 : Int) ≤ (j : Int) := by omega
      have i4 : (j : Int) < 5 := by omega
      go_wp2_with fail
      go_region
      all_goals
        go_wp2_with fail
        go_roundw
        case rel => exact ⟨k + 1, hlt, by go_num, by rw [RS2.out]; exact s4⟩
        case measure => simp [intOf]; omega
    · obtain rfl : k = k0 := by omega
      have RL := Lib.hid (runTo_len empty5 us k)
      generalize runTo empty5 us k = s at *
      go_wp2_with fail
      go_ret
      exact madeInts (ys := s) (by rw [RL.out]; exact s3) rfl

end Go.Proofs.Ytgdbphgcpcihcaa
