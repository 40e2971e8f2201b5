/-
  The walks of CountKeys, the program's and the reference's. No statement is proved here.
-/
import Derived.Test.YtkbckgnkbnakkaaU2
namespace Go.Proofs.Ytkbckgnkbnakkaa
open Go.RowKit

theorem St.rowSet {w0 w : World} {rs : List Res} {g n cap size : Nat} {e : TypeId} {xs : List Value} (h : St w0 w (row (.slice (some ⟨g, 0, none⟩) n cap) e size n xs :: rs)) (j : Nat) (u : Value) : St w0 (w.setCell ⟨g, j, none⟩ u) (row (.slice (some ⟨g, 0, none⟩) n cap) e size n (xs.set j u) :: rs) :=
  h.turn (h.own.stored j u).2 (row_own (h.own.stored j u).1) (fun _ h => .inl h) (fun b hb => by cases hb; exact ((h.own.stored j u).1.lt g rfl).2)

theorem make_five (w : World) : (Instr.makeSlice 23 (.int .i64 5) (.int .i64 5)).run Try.prog w = .ok (.slice (some ⟨w.heap.size, 0, none⟩) 5 5) (w.alloc (.cells #[.int .i64 0, .int .i64 0, .int .i64 0, .int .i64 0, .int .i64 0] 3)) := by kernel_rfl

theorem counts_set {us : List Upd} {k j : Nat} (hk : k < us.length) (hj : j < 5) (he : us[k].1 = j) : ((countsTo us k).map (Value.int .i64)).set j (.int .i64 ((keysTo us j k).length + 1)) = (countsTo us (k + 1)).map (Value.int .i64) := by
  rw [countsTo_succ us k j hk hj he, List.map_set]
theorem counts_cell {us : List Upd} {k j : Nat} (hj : j < 5) : ((countsTo us k).map (Value.int .i64))[j]? = some (.int .i64 (keysTo us j k).length) := by
  rw [List.getElem?_map, countsTo_at us k j hj]; rfl

set_option maxHeartbeats 1000000 in
theorem countKeys_calls (a : Option Addr) (cap : Nat) (us : List Upd) (w : World) (hm : us.length ≤ 1099511627776) (hx : UpdsAt w a us) :
    Calls Try.prog 25 #[.slice a us.length cap] w (MadeInts w (countsOf us)) := by
  cases hv : logOk us with
  | false =>
    have F : Hid (countsOf us = []) := Lib.hid (by rw [countsOf, hv]; rfl)
    have HV := Lib.hid hv
    clear hv
    go_enter Try.func25, Try.ntmps25
    go_wp2_with fail
    refine (logValid_calls _ _ _ _ hm hx).mono ?_
    rw [HV.out]
    rintro e w1 ⟨rfl, hb⟩
    have s1 := (((St.start w).call hb).alloc (.cells #[] 3)).madeRow 1 0 rfl (by simp [maxLen]) 0 (Nat.le_refl _)
    go_wp2_with fail
    go_ret
    exact madeInts (ys := []) s1 F.out
  | true =>
    have F : Hid (countsOf us = countsTo us us.length) := Lib.hid (by rw [countsOf, hv]; rfl)
    obtain ⟨hl12, hall⟩ := logOk_all hv
    have HALL := Lib.hid hall
    have HV := Lib.hid hv
    clear hv hall
    go_enter Try.func25, Try.ntmps25
    go_wp2_with fail
    refine (logValid_calls _ _ _ _ hm hx).mono ?_
    rw [HV.out]
    rintro e w1 ⟨rfl, hb⟩
    have s1 := (((St.start w).call hb).alloc (.cells #[.int .i64 0, .int .i64 0, .int .i64 0, .int .i64 0, .int .i64 0] 3)).madeRow 1 5 rfl (by simp [maxLen]) 5 (Nat.le_refl _)
    have hmk := make_five
    clear hb
    go_wp2_with fail
    clear hmk
    generalize hg : w1.heap.size = g at *
    clear hg
    go_loopw [13] (fun i wr => ∃ k : Nat, k ≤ us.length ∧ i = .int .i64 k ∧ St w wr [row (.slice (some ⟨g, 0, none⟩) 5 5) 3 1 5 ((countsTo us k).map (Value.int .i64))]) (fun i _ => us.length - (intOf i).toNat)
    case atStart => exact ⟨0, Nat.zero_le _, rfl, s1⟩
    case round =>
      clear s1
      obtain ⟨k, hk, rfl, s2⟩ := hrel
      by_cases hlt : k < us.length
      · obtain ⟨b, off, rfl, c0, c1⟩ := (hx.below s2.below).cells k hlt
        have i1 : (0 : Int) ≤ (k : Int) := by omega
        have i2 : (k : Int) < (us.length : Int) := by omega
        have hu := updOk_yes (HALL.out k hlt)
        obtain ⟨j, hj⟩ := Int.eq_ofNat_of_zero_le hu.1
        have hj5 : j < 5 := by omega
        have s3 := (s2.alloc (.cells #[.int .i64 us[k].1, .int .i64 us[k].2] 67)).drop
        have cj := (s3.own.cellAt j (by omega)).trans (counts_cell hj5)
        have fj := s3.own.frozenAt j
        have hle := keysTo_le us j k
        have CS := Lib.hid (counts_set hlt hj5 hj)
        have lg := (s2.own.lt g rfl).2
        rw [hj] at c0 cj fj s3
        clear hj hu
        generalize us[k].2 = q at *
        generalize (keysTo us j k).length = c at *
        have i3 : (0 : Int) ≤ (j : Int) := by omega
        have i4 : (j : Int) < 5 := by omega
        go_wp2_with fail
        go_roundw
        case rel => exact ⟨k + 1, hlt, by go_num, by have := ((s2.rowSet j (.int .i64 ((c : Int) + 1))).alloc (.cells #[.int .i64 j, .int .i64 q] 67)).drop; rw [CS.out] at this; exact this⟩
        case measure => simp [intOf]; omega
      · have ek : k = us.length := by omega
        go_wp2_with fail
        go_ret
        exact madeInts (ys := countsTo us us.length) (by rw [countsTo_len, ← ek]; exact s2) F.out

set_option maxHeartbeats 1000000 in
theorem specCountKeys_calls (a : Option Addr) (cap : Nat) (us : List Upd) (w : World) (hm : us.length ≤ 1099511627776) (hx : UpdsAt w a us) :
    Calls Try.prog 26 #[.slice a us.length cap] w (MadeInts w (countsOf us)) := by
  cases hv : logOk us with
  | false =>
    have F : Hid (countsOf us = []) := Lib.hid (by rw [countsOf, hv]; rfl)
    have HV := Lib.hid hv
    clear hv
    go_enter Try.func26, Try.ntmps26
    go_wp2_with fail
    refine (specLogValid_calls _ _ _ _ hm hx).mono ?_
    rw [HV.out]
    rintro e w1 ⟨rfl, hb⟩
    have s1 := (((St.start w).call hb).alloc (.cells #[] 3)).madeRow 1 0 rfl (by simp [maxLen]) 0 (Nat.le_refl _)
    go_wp2_with fail
    go_ret
    exact madeInts (ys := []) s1 F.out
  | true =>
    have F : Hid (countsOf us = countsTo us us.length) := Lib.hid (by rw [countsOf, hv]; rfl)
    obtain ⟨hl12, hall⟩ := logOk_all hv
    have HALL := Lib.hid hall
    have HV := Lib.hid hv
    clear hv hall
    go_enter Try.func26, Try.ntmps26
    go_wp2_with fail
    refine (specLogValid_calls _ _ _ _ hm hx).mono ?_
    rw [HV.out]
    rintro e w1 ⟨rfl, hb⟩
    have s1 := (((St.start w).call hb).alloc (.cells #[.int .i64 0, .int .i64 0, .int .i64 0, .int .i64 0, .int .i64 0] 3)).madeRow 1 5 rfl (by simp [maxLen]) 5 (Nat.le_refl _)
    have hmk := make_five
    clear hb
    go_wp2_with fail
    clear hmk
    generalize hg : w1.heap.size = g at *
    clear hg
    go_loopw [4] (fun i wr => ∃ k : Nat, k ≤ us.length ∧ i = .int .i64 k ∧ St w wr [row (.slice (some ⟨g, 0, none⟩) 5 5) 3 1 5 ((countsTo us k).map (Value.int .i64))]) (fun i _ => us.length - (intOf i).toNat)
    case atStart => exact ⟨0, Nat.zero_le _, rfl, s1⟩
    case round =>
      clear s1
      obtain ⟨k, hk, rfl, s2⟩ := hrel
      by_cases hlt : k < us.length
      · obtain ⟨b, off, rfl, c0, c1⟩ := (hx.below s2.below).cells k hlt
        have i1 : (0 : Int) ≤ (k : Int) := by omega
        have i2 : (k : Int) < (us.length : Int) := by omega
        have hu := updOk_yes (HALL.out k hlt)
        obtain ⟨j, hj⟩ := Int.eq_ofNat_of_zero_le hu.1
        have hj5 : j < 5 := by omega
        have cj := (s2.own.cellAt j (by omega)).trans (counts_cell hj5)
        have fj := s2.own.frozenAt j
        have hle := keysTo_le us j k
        have CS := Lib.hid (counts_set hlt hj5 hj)
        rw [hj] at c0
        clear hj hu c1
        generalize (keysTo us j k).length = c at *
        have i3 : (0 : Int) ≤ (j : Int) := by omega
        have i4 : (j : Int) < 5 := by omega
        have i5 : IntKind.i64.wrap ((c : Int) + 1) = (c : Int) + 1 := by rw [IntKind.wrap_i64]; omega
        go_wp2_with fail
        go_region
        all_goals
          go_wp2_with fail
          go_roundw
          case rel => exact ⟨k + 1, hlt, by go_num, by have := (s2.drew).rowSet j (.int .i64 ((c : Int) + 1)); rw [CS.out] at this; exact this⟩
          case measure => simp [intOf]; omega
      · have ek : k = us.length := by omega
        go_wp2_with fail
        go_ret
        exact madeInts (ys := countsTo us us.length) (by rw [countsTo_len, ← ek]; exact s2) F.out

end Go.Proofs.Ytkbckgnkbnakkaa
