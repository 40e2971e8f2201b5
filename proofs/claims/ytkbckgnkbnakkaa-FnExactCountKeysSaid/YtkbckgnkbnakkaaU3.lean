/-
  The walks of CountKeys, the program's and the reference's. No statement is proved here.
-/
import Derived.Test.YtkbckgnkbnakkaaU2
namespace Go.Proofs.Ytkbckgnkbnakkaa
open Go.RowKit

set_option maxHeartbeats 1000000 in
theorem logKey_calls (a : Option Addr) (cap : Nat) (us : List Upd) (key : Int) (w : World) (hm : us.length ≤ 1099511627776) (hx : UpdsAt w a us) :
    Calls Try.prog 28 #[.slice a us.length cap, .int .i64 key] w (MadeInts w (keysOf us key)) := by
  have s0 := ((St.start w).alloc (.cells #[] 3)).madeRow 1 0 rfl (by simp [maxLen]) 0 (Nat.le_refl _)
  simp only [List.take_nil] at s0
  cases hv : logOk us with
  | false =>
    have F : Hid (keysOf us key = []) := Lib.hid (by rw [keysOf, hv]; rfl)
    have HV := Lib.hid hv
    clear hv
    go_enter Try.func28, Try.ntmps28
    go_wp2_with fail
    refine (logValid_calls _ _ _ _ hm (hx.below s0.below)).mono ?_
    rw [HV.out]
    rintro e w1 ⟨rfl, hb⟩
    have s1 := s0.call hb
    go_wp2_with fail
    go_ret
    exact madeInts (ys := []) s1 F.out
  | true =>
    have F : Hid (keysOf us key = keysTo us key us.length) := Lib.hid (by rw [keysOf, hv]; rfl)
    have hl12 := (logOk_all hv).1
    have HV := Lib.hid hv
    clear hv
    go_enter Try.func28, Try.ntmps28
    go_wp2_with fail
    refine (logValid_calls _ _ _ _ hm (hx.below s0.below)).mono ?_
    rw [HV.out]
    rintro e w1 ⟨rfl, hb⟩
    have s1 := s0.call hb
    clear s0 hb
    go_wp2_with fail
    go_loopw [5, 15] (fun v i wr => ∃ (k : Nat) (ys : List Int), k ≤ us.length ∧ i = .int .i64 k ∧ ys = keysTo us key k ∧ St w wr [row v 3 1 ys.length (ys.map (Value.int .i64))]) (fun _ i _ => us.length - (intOf i).toNat)
    case atStart => exact ⟨0, [], Nat.zero_le _, rfl, rfl, s1⟩
    case round =>
      clear s1
      obtain ⟨k, ys, hk, rfl, hys, s2⟩ := hrel
      by_cases hlt : k < us.length
      · obtain ⟨b, off, rfl, c0, c1⟩ := (hx.below s2.below).cells k hlt
        have i1 : (0 : Int) ≤ (k : Int) := by omega
        have i2 : (k : Int) < (us.length : Int) := by omega
        have hyl : ys.length ≤ 12 := by rw [hys]; exact Nat.le_trans (keysTo_le _ _ _) (by omega)
        have hs := keysTo_succ us key k hlt
        rw [← hys] at hs
        have HYS := Lib.hid hys
        clear hys
        generalize us[k].1 = p at *
        generalize us[k].2 = q at *
        have s3 := s2.alloc (.cells #[.int .i64 p, .int .i64 q] 67)
        by_cases hp : p = key
        · subst hp
          rw [if_pos rfl] at hs
          have HS := Lib.hid hs
          clear hs
          have o3 := s3.at1.own
          have lR := s2.size
          go_wp2_with ((at_builtin; refine list_app elem_int (by rfl) _ _ (by rfl) w.heap.size u5 ys.length (ys.map (Value.int .i64)) (by rfl) (wr.heap.size + 1) 1 1 (by rfl) #[.int .i64 ((k : Int) + 1)] 3 (0, 0) (by rfl) (by simp [Value.oneCell']) (by omega) (by omega) (by omega) (heap_second wr _ _) (o3.alloc _) (by simp; omega) ?_); intro gg cap3 w7 hown hgrow hat hl)
          have s4 := (s3.at1.app (World.grownBy_alloc _ _ none) hown hgrow hat hl).under St.drop (by simp)
          clear hown hgrow hat hl o3 s3 s2
          go_wp2_with fail
          go_roundw
          case rel => exact ⟨k + 1, ys ++ [(k : Int) + 1], hlt, by go_num, HS.out.symm, by simpa using s4⟩
          case measure => simp [intOf]; omega
        · rw [if_neg hp] at hs
          have HS := Lib.hid hs
          have hp' : (p == key) = false := by simpa using hp
          clear hs hp
          go_wp2_with fail
          go_roundw
          case rel => exact ⟨k + 1, ys, hlt, by go_num, HS.out.symm, s3.drop⟩
          case measure => simp [intOf]; omega
      · have HY : Hid (keysOf us key = ys) := Lib.hid (by rw [F.out, hys, show k = us.length by omega])
        clear hys
        go_wp2_with fail
        go_ret
        exact madeInts s2 HY.out

theorem counts_set {us : List Upd} {k j : Nat} (hk : k < us.length) (hj : j < 5) (he : us[k].1 = j) : ((countsTo us k).map (Value.int .i64)).set j (.int .i64 ((keysTo us j k).length + 1)) = (countsTo us (k + 1)).map (Value.int .i64) := by
  rw [countsTo_succ us k j hk hj he, List.map_set]
theorem counts_cell {us : List Upd} {k j : Nat} (hj : j < 5) : ((countsTo us k).map (Value.int .i64))[j]? = some (.int .i64 (keysTo us j k).length) := by
  rw [List.getElem?_map, countsTo_at us k j hj]; rfl

set_option maxHeartbeats 1000000 in
theorem countKeys_calls (a : Option Addr) (cap : Nat) (us : List Upd) (w : World) (hm : us.length ≤ 1099511627776) (hx : UpdsAt w a us) :
    Calls Try.prog 25 #[.slice a us.length cap] w (MadeInts w (countsOf us)) := by
  cases hv : logOk us with
  | false =>
    have F : Hid (countsOf us = []) := Lib.hid (by rw [countsOf, hv]; rfl)
    have HV := Lib.hid hv
    clear hv
    go_enter Try.func25, Try.ntmps25
    go_wp2_with fail
    refine (logValid_calls _ _ _ _ hm hx).mono ?_
    rw [HV.out]
    rintro e w1 ⟨rfl, hb⟩
    have s1 := (((St.start w).call hb).alloc (.cells #[] 3)).madeRow 1 0 rfl (by simp [maxLen]) 0 (Nat.le_refl _)
    go_wp2_with fail
    go_ret
    exact madeInts (ys := []) s1 F.out
  | true =>
    have F : Hid (countsOf us = countsTo us us.length) := Lib.hid (by rw [countsOf, hv]; rfl)
    obtain ⟨hl12, hall⟩ := logOk_all hv
    have HALL := Lib.hid hall
    have HV := Lib.hid hv
    clear hv hall
    go_enter Try.func25, Try.ntmps25
    go_wp2_with fail
    refine (logValid_calls _ _ _ _ hm hx).mono ?_
    rw [HV.out]
    rintro e w1 ⟨rfl, hb⟩
    have s1 := (((St.start w).call hb).alloc (.cells #[.int .i64 0, .int .i64 0, .int .i64 0, .int .i64 0, .int .i64 0] 3)).madeRow 1 5 rfl (by simp [maxLen]) 5 (Nat.le_refl _)
    have hmk := make_five
    clear hb
    go_wp2_with fail
    clear hmk
    generalize hg : w1.heap.size = g at *
    clear hg
    go_loopw [13] (fun i wr => ∃ k : Nat, k ≤ us.length ∧ i = .int .i64 k ∧ St w wr [row (.slice (some ⟨g, 0, none⟩) 5 5) 3 1 5 ((countsTo us k).map (Value.int .i64))]) (fun i _ => us.length - (intOf i).toNat)
    case atStart => exact ⟨0, Nat.zero_le _, rfl, s1⟩
    case round =>
      clear s1
      obtain ⟨k, hk, rfl, s2⟩ := hrel
      by_cases hlt : k < us.length
      · obtain ⟨b, off, rfl, c0, c1⟩ := (hx.below s2.below).cells k hlt
        have i1 : (0 : Int) ≤ (k : Int) := by omega
        have i2 : (k : Int) < (us.length : Int) := by omega
        have hu := updOk_yes (HALL.out k hlt)
        obtain ⟨j, hj⟩ := Int.eq_ofNat_of_zero_le hu.1
        have hj5 : j < 5 := by omega
        have s3 := (s2.alloc (.cells #[.int .i64 us[k].1, .int .i64 us[k].2] 67)).drop
        have cj := (s3.own.cellAt j (by omega)).trans (counts_cell hj5)
        have fj := s3.own.frozenAt j
        have hle := keysTo_le us j k
        have CS := Lib.hid (counts_set hlt hj5 hj)
        have lg := (s2.own.lt g rfl).2
        rw [hj] at c0 cj fj s3
        clear hj hu
        generalize us[k].2 = q at *
        generalize (keysTo us j k).length = c at *
        have i3 : (0 : Int) ≤ (j : Int) := by omega
        have i4 : (j : Int) < 5 := by omega
        go_wp2_with fail
        go_roundw
        case rel => exact ⟨k + 1, hlt, by go_num, by have := ((s2.rowSet j (.int .i64 ((c : Int) + 1))).alloc (.cells #[.int .i64 j, .int .i64 q] 67)).drop; rw [CS.out] at this; exact this⟩
        case measure => simp [intOf]; omega
      · have ek : k = us.length := by omega
        go_wp2_with fail
        go_ret
        exact madeInts (ys := countsTo us us.length) (by rw [countsTo_len, ← ek]; exact s2) F.out

set_option maxHeartbeats 1000000 in
theorem specCountKeys_calls (a : Option Addr) (cap : Nat) (us : List Upd) (w : World) (hm : us.length ≤ 1099511627776) (hx : UpdsAt w a us) :
    Calls Try.prog 26 #[.slice a us.length cap] w (MadeInts w (countsOf us)) := by
  cases hv : logOk us with
  | false =>
    have F : Hid (countsOf us = []) := Lib.hid (by rw [countsOf, hv]; rfl)
    have HV := Lib.hid hv
    clear hv
    go_enter Try.func26, Try.ntmps26
    go_wp2_with fail
    refine (specLogValid_calls _ _ _ _ hm hx).mono ?_
    rw [HV.out]
    rintro e w1 ⟨rfl, hb⟩
    have s1 := (((St.start w).call hb).alloc (.cells #[] 3)).madeRow 1 0 rfl (by simp [maxLen]) 0 (Nat.le_refl _)
    go_wp2_with fail
    go_ret
    exact madeInts (ys := []) s1 F.out
  | true =>
    have F : Hid (countsOf us = countsTo us us.length) := Lib.hid (by rw [countsOf, hv]; rfl)
    obtain ⟨hl12, hall⟩ := logOk_all hv
    have HALL := Lib.hid hall
    have HV := Lib.hid hv
    clear hv hall
    go_enter Try.func26, Try.ntmps26
    go_wp2_with fail
    refine (specLogValid_calls _ _ _ _ hm hx).mono ?_
    rw [HV.out]
    rintro e w1 ⟨rfl, hb⟩
    have s1 := (((St.start w).call hb).alloc (.cells #[.int .i64 0, .int .i64 0, .int .i64 0, .int .i64 0, .int .i64 0] 3)).madeRow 1 5 rfl (by simp [maxLen]) 5 (Nat.le_refl _)
    have hmk := make_five
    clear hb
    go_wp2_with fail
    clear hmk
    generalize hg : w1.heap.size = g at *
    clear hg
    go_loopw [4] (fun i wr => ∃ k : Nat, k ≤ us.length ∧ i = .int .i64 k ∧ St w wr [row (.slice (some ⟨g, 0, none⟩) 5 5) 3 1 5 ((countsTo us k).map (Value.int .i64))]) (fun i _ => us.length - (intOf i).toNat)
    case atStart => exact ⟨0, Nat.zero_le _, rfl, s1⟩
    case round =>
      clear s1
      obtain ⟨k, hk, rfl, s2⟩ := hrel
      by_cases hlt : k < us.length
      · obtain ⟨b, off, rfl, c0, c1⟩ := (hx.below s2.below).cells k hlt
        have i1 : (0 : Int) ≤ (k : Int) := by omega
        have i2 : (k : Int) < (us.length : Int) := by omega
        have hu := updOk_yes (HALL.out k hlt)
        obtain ⟨j, hj⟩ := Int.eq_ofNat_of_zero_le hu.1
        have hj5 : j < 5 := by omega
        have cj := (s2.own.cellAt j (by omega)).trans (counts_cell hj5)
        have fj := s2.own.frozenAt j
        have hle := keysTo_le us j k
        have CS := Lib.hid (counts_set hlt hj5 hj)
        rw [hj] at c0
        clear hj hu c1
        generalize (keysTo us j k).length = c at *
        have i3 : (0 : Int) ≤ (j : Int) := by omega
        have i4 : (j : Int) < 5 := by omega
        have i5 : IntKind.i64.wrap ((c : Int) + 1) = (c : Int) + 1 := by rw [IntKind.wrap_i64]; omega
        go_wp2_with fail
        go_region
        all_goals
          go_wp2_with fail
          go_roundw
          case rel => exact ⟨k + 1, hlt, by go_num, by have := (s2.drew).rowSet j (.int .i64 ((c : Int) + 1)); rw [CS.out] at this; exact this⟩
          case measure => simp [intOf]; omega
      · have ek : k = us.length := by omega
        go_wp2_with fail
        go_ret
        exact madeInts (ys := countsTo us us.length) (by rw [countsTo_len, ← ek]; exact s2) F.out

end Go.Proofs.Ytkbckgnkbnakkaa
