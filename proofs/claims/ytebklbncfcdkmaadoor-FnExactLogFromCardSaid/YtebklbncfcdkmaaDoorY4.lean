
/-
  A log as a text: the program's and the reference's. One condition: the log's length.
-/
import Derived.Test.YtebklbncfcdkmaaDoorY2
import Derived.Test.YtebklbncfcdkmaaDoorY3
namespace Go.Proofs.YtebklbncfcdkmaaDoor
open Go.RowKit

/-- The first k updates with commas between them. -/
def joinT (us : List Upd) : Nat → List UInt8
  | 0 => []
  | k + 1 => (if 0 < k then joinT us k ++ [44] else joinT us k) ++ updT (us.getD k (0, 0))
def logT (us : List Upd) : List UInt8 := if us.length = 0 then [45] else joinT us us.length
def logText (us : List Upd) : List UInt8 := if logOk us = true then logT us else []
theorem joinT_length (us : List Upd) (h : ∀ k, (hk : k < us.length) → updOk us[k] = true) : ∀ k, k ≤ us.length → (joinT us k).length ≤ 121 * k
  | 0, _ => by simp [joinT]
  | k + 1, hk => by
    have h1 := joinT_length us h k (by omega)
    have h2 := updT_length (h k (by omega))
    have e : us.getD k (0, 0) = us[k] := by rw [List.getD_eq_getElem?_getD, List.getElem?_eq_getElem (by omega)]; rfl
    unfold joinT
    rw [e]
    split <;> simp <;> omega
theorem logT_length (us : List Upd) (h : logOk us = true) : (logT us).length ≤ 1452 := by
  obtain ⟨h1, h2⟩ := logOk_all h
  have := joinT_length us h2 us.length (Nat.le_refl _)
  unfold logT
  split <;> simp <;> omega
theorem logText_length (us : List Upd) : (logText us).length ≤ 1452 := by
  unfold logText
  split
  · rename_i h; exact logT_length us h
  · simp

set_option maxRecDepth 100000 in
set_option maxHeartbeats 2000000 in
theorem l41Log_calls (a : Option Addr) (cap : Nat) (us : List Upd) (w : World) (ho : logOk us = true) (hx : UpdsAt w a us) :
    Calls Tryd.prog 43 #[.slice a us.length cap] w fun e w' => e = .returned (.string ⟨(logT us).toArray⟩) ∧ Below w.heap.size w w' := by
  obtain ⟨h12, hall⟩ := logOk_all ho
  have HALL := Lib.hid hall
  have HO := Lib.hid ho
  clear hall ho
  by_cases h0 : us.length = 0
  · have FIN : Hid (logT us = [45]) := Lib.hid (by simp [logT, h0])
    have z : (us.length : Int) = 0 := by omega
    go_enter Tryd.func43, Tryd.ntmps43
    go_wp2_with fail
    exact bodyPost_ret (v := .string ⟨#[45]⟩) (by simp [results, Tryd.results43, go_sem]) rfl ⟨by rw [FIN.out], Below.refl _ _⟩
  · have FIN : Hid (logT us = joinT us us.length) := Lib.hid (by simp [logT, h0])
    have z : ¬ (us.length : Int) = 0 := by omega
    have zb : ((us.length : Int) == 0) = false := by simpa using z
    go_enter Tryd.func43, Tryd.ntmps43
    go_wp2_with fail
    clear z h0
    go_loopw [3, 4] (fun t i wr => ∃ k : Nat, k ≤ us.length ∧ i = .int .i64 k ∧ t = .string ⟨(joinT us k).toArray⟩ ∧ Below w.heap.size w wr) (fun _ i _ => us.length - (intOf i).toNat)
    case atStart => exact ⟨0, Nat.zero_le _, rfl, rfl, Below.refl _ _⟩
    case round =>
      obtain ⟨k, hk, rfl, rfl, hB⟩ := hrel
      have hjl := joinT_length us HALL.out k hk
      by_cases hlt : k < us.length
      · obtain ⟨b, off, rfl, c0, c1⟩ := (hx.below hB).cells k hlt
        have i1 : (0 : Int) ≤ (k : Int) := by omega
        have i2 : (k : Int) < (us.length : Int) := by omega
        have hok := HALL.out k hlt
        have hul := updT_length hok
        have hnx : joinT us (k + 1) = (if 0 < k then joinT us k ++ [44] else joinT us k) ++ updT us[k] := by rw [joinT]; simp [hlt]
        have LU := Lib.hid (l41Update_calls us[k].1 us[k].2 hok)
        rw [show ((us[k].1, us[k].2) : Upd) = us[k] from rfl] at LU
        clear hok
        generalize hu : updT us[k] = ut at *
        generalize us[k].1 = p at *
        generalize us[k].2 = q at *
        clear hu
        by_cases hk0 : 0 < k
        · rw [if_pos hk0] at hnx
          have i3 : (0 : Int) < (k : Int) := by omega
          have cat1 := cat_run (P := Tryd.prog) (joinT us k) [44] (by simp; omega)
          have cat2 := cat_run (P := Tryd.prog) (joinT us k ++ [44]) ut (by simp; omega)
          have HN := Lib.hid hnx
          clear hnx hjl hul
          go_wp2_with fail
          refine (LU.out _).mono ?_
          rintro e w1 ⟨rfl, hb1⟩
          go_wp2_with fail
          go_roundw
          case rel => exact ⟨k + 1, hlt, by go_num, by rw [HN.out]; simp, hB.trans (hb1.mono hB.size)⟩
          case measure => simp [intOf]; omega
        · rw [if_neg hk0] at hnx
          have i3 : ¬ (0 : Int) < (k : Int) := by omega
          have cat2 := cat_run (P := Tryd.prog) (joinT us k) ut (by omega)
          have HN := Lib.hid hnx
          clear hnx hjl hul
          go_wp2_with fail
          refine (LU.out _).mono ?_
          rintro e w1 ⟨rfl, hb1⟩
          go_wp2_with fail
          go_roundw
          case rel => exact ⟨k + 1, hlt, by go_num, by rw [HN.out], hB.trans (hb1.mono hB.size)⟩
          case measure => simp [intOf]; omega
      · obtain rfl : k = us.length := by omega
        go_wp2_with fail
        exact bodyPost_ret (v := .string ⟨(joinT us us.length).toArray⟩) (by simp [results, Tryd.results43, go_sem]) rfl ⟨by rw [FIN.out], hB⟩

set_option maxRecDepth 100000 in
set_option maxHeartbeats 2000000 in
theorem specLogText_calls (a : Option Addr) (cap : Nat) (us : List Upd) (w : World) (hm : us.length ≤ 1099511627776) (hx : UpdsAt w a us) :
    Calls Tryd.prog 18 #[.slice a us.length cap] w fun e w' => e = .returned (.string ⟨(logText us).toArray⟩) ∧ Below w.heap.size w w' := by
  go_enter Tryd.func18, Tryd.ntmps18
  go_wp2_with fail
  refine (specLogValid_calls a cap us _ hm hx).mono ?_
  rintro e w1 ⟨rfl, hb⟩
  cases h : logOk us with
  | false =>
    have FIN : Hid (logText us = []) := Lib.hid (by simp [logText, h])
    go_wp2_with fail
    exact bodyPost_ret (v := .string ⟨#[]⟩) (by simp [results, Tryd.results18, go_sem]) rfl ⟨by rw [FIN.out], hb⟩
  | true =>
    have FIN : Hid (logText us = logT us) := Lib.hid (by simp [logText, h])
    have L := Lib.hid (l41Log_calls a cap us w1 h (hx.below hb))
    clear h
    go_wp2_with fail
    refine L.out.mono ?_
    rintro e w2 ⟨rfl, hb2⟩
    go_wp2_with fail
    exact bodyPost_ret (v := .string ⟨(logT us).toArray⟩) (by simp [results, Tryd.results18, go_sem]) rfl ⟨by rw [FIN.out], hb.trans (hb2.mono hb.size)⟩

theorem kept_upd {b : Nat} {w w' : World} (h : Lib.OthersKept 5 (some b) w w') {k : Nat} {cs : Array Value} (hk : w.heap[k]? = some (.cells cs 25 (0, 0))) (hne : k ≠ b) : w'.heap[k]? = some (.cells cs 25 (0, 0)) :=
  h k _ hk (fun e => hne (Option.some.inj e)) (fun _ _ e => by cases e)

set_option maxRecDepth 100000 in
set_option maxHeartbeats 4000000 in
theorem logText_calls (a : Option Addr) (cap : Nat) (us : List Upd) (w : World) (hm : us.length ≤ 1099511627776) (hx : UpdsAt w a us) :
    Calls Tryd.prog 20 #[.slice a us.length cap] w fun e w' => e = .returned (.string ⟨(logText us).toArray⟩) ∧ Below w.heap.size w w' := by
  go_enter Tryd.func20, Tryd.ntmps20
  go_wp2_with fail
  refine (logValid_calls a cap us _ hm hx).mono ?_
  rintro e w1 ⟨rfl, hb⟩
  cases h : logOk us with
  | false =>
    have FIN : Hid (logText us = []) := Lib.hid (by simp [logText, h])
    go_wp2_with fail
    exact bodyPost_ret (v := .string ⟨#[]⟩) (by simp [results, Tryd.results20, go_sem]) rfl ⟨by rw [FIN.out], hb⟩
  | true =>
    obtain ⟨h12, hall⟩ := logOk_all h
    have HALL := Lib.hid hall
    by_cases h0 : us.length = 0
    · have FIN : Hid (logText us = [45]) := Lib.hid (by simp [logText, logT, h, h0])
      have z : (us.length : Int) = 0 := by omega
      clear h hall
      go_wp2_with fail
      exact bodyPost_ret (v := .string ⟨#[45]⟩) (by simp [results, Tryd.results20, go_sem]) rfl ⟨by rw [FIN.out], hb⟩
    · have FIN : Hid (logText us = joinT us us.length) := Lib.hid (by simp [logText, logT, h, h0])
      have z : ¬ (us.length : Int) = 0 := by omega
      have zb : ((us.length : Int) == 0) = false := by simpa using z
      have hx1 := hx.below hb
      have bn := Bld.new w1
      have bl : Below w1.heap.size w1 (w1.alloc (.cells #[.pointer none, .slice none 0 0] 64)) := (Below.refl _ _).alloc (Nat.le_refl _) _
      have BN := Lib.hid bn
      have BL := Lib.hid bl
      clear h hall bn bl
      go_wp2_with fail
      clear z h0
      go_loopw [14] (fun i wr => ∃ k : Nat, k ≤ us.length ∧ i = .int .i64 k ∧ Bld w1.heap.size w1.heap.size (joinT us k) wr ∧ Below w1.heap.size w1 wr) (fun i _ => us.length - (intOf i).toNat)
      case atStart => exact ⟨0, Nat.zero_le _, rfl, BN.out, BL.out⟩
      case round =>
        obtain ⟨k, hk, rfl, hD, hB⟩ := hrel
        have hjl := joinT_length us HALL.out k hk
        by_cases hlt : k < us.length
        · obtain ⟨b, off, rfl, c0, c1⟩ := (hx1.below hB).cells k hlt
          have i1 : (0 : Int) ≤ (k : Int) := by omega
          have i2 : (k : Int) < (us.length : Int) := by omega
          have hok := HALL.out k hlt
          have hul := updT_length hok
          have hnx : joinT us (k + 1) = (if 0 < k then joinT us k ++ [44] else joinT us k) ++ updT us[k] := by rw [joinT]; simp [hlt]
          have LU := Lib.hid (updateText_calls us[k].1 us[k].2)
          rw [show ((us[k].1, us[k].2) : Upd) = us[k] from rfl, show updText us[k] = updT us[k] by simp [updText, hok]] at LU
          clear hok
          generalize hu : updT us[k] = ut at *
          generalize us[k].1 = p at *
          generalize us[k].2 = q at *
          clear hu
          have hD2 := hD.alloc (.cells #[.int .i64 p, .int .i64 q] 25)
          have hB2 := hB.alloc hB.size (.cells #[.int .i64 p, .int .i64 q] 25)
          have hU2 := heap_alloc_new wr (.cells #[.int .i64 p, .int .i64 q] 25)
          have hne : wr.heap.size ≠ w1.heap.size := by have := hD.lt; omega
          have HD2 := Lib.hid hD2
          have HB2 := Lib.hid hB2
          have HU2 := Lib.hid hU2
          have HNE := Lib.hid hne
          clear hD2 hB2 hU2 hne
          by_cases hk0 : 0 < k
          · rw [if_pos hk0] at hnx
            have i3 : (0 : Int) < (k : Int) := by omega
            have HN := Lib.hid hnx
            clear hnx
            go_wp2_with fail
            refine (writeString_calls _ _ _ [44] _ HD2.out (by simp; omega) HB2.out.size).mono ?_
            rintro e w3 ⟨rfl, hD3, hb3, hk3⟩
            have hB3 := HB2.out.trans hb3
            have hU3 := kept_upd hk3 HU2.out HNE.out
            have d0 := (cell_of_heap (o := 0) hU3).trans (show _ = some (Value.int .i64 p) from rfl)
            have d1 := (cell_of_heap (o := 1) hU3).trans (show _ = some (Value.int .i64 q) from rfl)
            clear hU3 hk3 hb3
            go_wp2_with fail
            refine (LU.out _).mono ?_
            rintro e w4 ⟨rfl, hb4⟩
            have hD4 := Bld.below hD3 hb4
            have hB4 := hB3.trans (hb4.mono hB3.size)
            clear d0 d1
            go_wp2_with fail
            refine (writeString_calls _ _ _ ut _ hD4 (by simp; omega) hB4.size).mono ?_
            rintro e w5 ⟨rfl, hD5, hb5, hk5⟩
            go_wp2_with fail
            go_roundw
            case rel => exact ⟨k + 1, hlt, by go_num, by rw [HN.out]; exact hD5, hB4.trans hb5⟩
            case measure => simp [intOf]; omega
          · rw [if_neg hk0] at hnx
            have i3 : ¬ (0 : Int) < (k : Int) := by omega
            have HN := Lib.hid hnx
            clear hnx
            have d0 := (cell_of_heap (o := 0) HU2.out).trans (show _ = some (Value.int .i64 p) from rfl)
            have d1 := (cell_of_heap (o := 1) HU2.out).trans (show _ = some (Value.int .i64 q) from rfl)
            go_wp2_with fail
            refine (LU.out _).mono ?_
            rintro e w4 ⟨rfl, hb4⟩
            have hD4 := Bld.below HD2.out hb4
            have hB4 := HB2.out.trans (hb4.mono HB2.out.size)
            clear d0 d1
            go_wp2_with fail
            refine (writeString_calls _ _ _ ut _ hD4 (by omega) hB4.size).mono ?_
            rintro e w5 ⟨rfl, hD5, hb5, hk5⟩
            go_wp2_with fail
            go_roundw
            case rel => exact ⟨k + 1, hlt, by go_num, by rw [HN.out]; exact hD5, hB4.trans hb5⟩
            case measure => simp [intOf]; omega
        · obtain rfl : k = us.length := by omega
          go_wp2_with fail
          refine (Tryd.Builder_String_any_k w1.heap.size w1.heap.size (joinT us us.length) _ hD hB.size).mono ?_
          rintro e w2 ⟨rfl, _, hb2, _⟩
          go_wp2_with fail
          exact bodyPost_ret (v := .string ⟨(joinT us us.length).toArray⟩) (by simp [results, Tryd.results20, go_sem]) rfl ⟨by rw [FIN.out], hb.trans ((hB.trans hb2).mono hb.size)⟩

end Go.Proofs.YtebklbncfcdkmaaDoor
