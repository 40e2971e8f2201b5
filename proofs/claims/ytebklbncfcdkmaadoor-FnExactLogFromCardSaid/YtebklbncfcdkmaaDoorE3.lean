
/-
  The walks of the laws' own functions on slices of updates: size, copy, equal, mark. No statement is proved here.
-/
import Derived.Test.YtebklbncfcdkmaaDoorU1
import Derived.Test.YtebklbncfcdkmaaDoorE1
import Derived.Deep.RegionHeld3
namespace Go.Proofs.YtebklbncfcdkmaaDoor
open Go.RowKit

theorem szUpdateS_yes (a : Option Addr) (n cap : Nat) (left : Int) (w : World) (h : (n : Int) ≤ left) (hl : left ≤ 1048576) :
    Calls Tryd.prog 17 #[.slice a n cap, .int .i64 left] w fun e w' => e = .returned (.int .i64 (left - n)) ∧ w = w' := by
  have h1 : 0 ≤ left - (n : Int) := by omega
  go_enter Tryd.func17, Tryd.ntmps17
  go_wp2
  go_ret
  exact ⟨rfl, rfl⟩
theorem szUpdateS_no (a : Option Addr) (n cap : Nat) (left : Int) (w : World) (h : left < (n : Int)) (h0 : 0 ≤ left) (hl : left ≤ 1048576) (hn : n ≤ 9223372036854775807) :
    Calls Tryd.prog 17 #[.slice a n cap, .int .i64 left] w fun e w' => e = .returned (.int .i64 (-1)) ∧ w = w' := by
  have h1 : left - (n : Int) < 0 := by omega
  go_enter Tryd.func17, Tryd.ntmps17
  go_wp2
  go_ret
  exact ⟨rfl, rfl⟩

set_option maxHeartbeats 400000 in
theorem toUpdate_calls (k v : Int) (w : World) :
    Calls Tryd.prog 15 #[.agg #[.int .i64 k, .int .i64 v]] w fun e w' => e = .returned (.agg #[.int .i64 k, .int .i64 v]) ∧ Below w.heap.size w w' := by
  go_enter Tryd.func15, Tryd.ntmps15
  go_wp2_with fail
  exact bodyPost_ret (v := .agg #[.int .i64 k, .int .i64 v]) (by simp [results, Tryd.results15, go_sem]) rfl ⟨rfl, by
    refine Below.trans ?_ (Below.refl _ _)
    first
      | exact (((Below.refl _ _).alloc (Nat.le_refl _) _).alloc (by simp) _).alloc (by simp; omega) _
      | exact ((((Below.refl _ _).alloc (Nat.le_refl _) _).alloc (by simp) _).alloc (by simp; omega) _)⟩

theorem upd_set {cs : List Value} {us : List Upd} {j : Nat} (h : j * 2 + 1 < cs.length) (hj : j < us.length) (ht : cs.take (j * 2) = ucells (us.take j)) :
    ((cs.set (j * 2) (.int .i64 us[j].1)).set (j * 2 + 1) (.int .i64 us[j].2)).take ((j + 1) * 2) = ucells (us.take (j + 1)) := by
  rw [show (j + 1) * 2 = j * 2 + 1 + 1 by omega, take_set_snoc _ _ _ (by simpa using h), take_set_snoc _ _ _ (by omega), ht, List.take_succ_eq_append_getElem hj, ucells_append]
  simp [ucells]

set_option maxHeartbeats 1000000 in
theorem toUpdateS_calls (a : Option Addr) (cap : Nat) (us : List Upd) (w : World) (hm : us.length ≤ 2097152) (hx : UpdsAt w a us) :
    Calls Tryd.prog 19 #[.slice a us.length cap] w (MadeUpds w us) := by
  obtain ⟨ht, i, z, hi, hz, hsize, hby, hzs, hsz⟩ := elem_upd
  obtain ⟨wm, hr, ho, hg⟩ := run_makeSlice_full (P := Tryd.prog) w w.heap.size 31 25 i z 2 ht hi hz hsize .i64 .i64 us.length (by omega) (by rw [hby]; omega) (by unfold maxLen; omega) (Nat.le_refl _)
  have s0 : St w wm (row (.slice (some ⟨w.heap.size, 0, none⟩) us.length us.length) 25 2 us.length (madeCells z.cells (us.length * 2)).toList :: []) :=
    (St.start w).add hg (row_own ho) (fun b hb => by cases hb; exact ho.lt _ rfl)
  generalize (madeCells z.cells (us.length * 2)).toList = cs0 at *
  clear ho hg hi hz hsize hby hzs hsz ht
  go_enter Tryd.func19, Tryd.ntmps19
  go_wp2_with fail
  clear hr
  go_loopw [4] (fun i wr => ∃ (k : Nat) (cs : List Value), k ≤ us.length ∧ i = .int .i64 k ∧ cs.take (k * 2) = ucells (us.take k) ∧ St w wr [row (.slice (some ⟨w.heap.size, 0, none⟩) us.length us.length) 25 2 us.length cs]) (fun i _ => us.length - (intOf i).toNat)
  case atStart => exact ⟨0, cs0, Nat.zero_le _, rfl, rfl, s0⟩
  case round =>
    clear s0
    obtain ⟨k, cs, hk, rfl, ht, s1⟩ := hrel
    have hl := s1.own.1
    by_cases hlt : k < us.length
    · obtain ⟨b, off, rfl, c0, c1⟩ := (hx.below s1.below).cells k hlt
      have HT := Lib.hid (upd_set (by omega) hlt ht)
      have i1 : (0 : Int) ≤ (k : Int) := by omega
      have i2 : (k : Int) < (us.length : Int) := by omega
      clear ht
      generalize us[k].1 = p at *
      generalize us[k].2 = q at *
      go_wp2_with fail
      refine (toUpdate_calls _ _ _).mono ?_
      rintro e w1 ⟨rfl, hb1⟩
      have s2 := s1.call hb1
      have cd := s2.own.cellAt (k * 2) (by omega)
      have ce := s2.own.cellAt (k * 2 + 1) (by omega)
      have fd := s2.own.frozenAt (k * 2)
      have fe := s2.own.frozenAt (k * 2 + 1)
      rw [List.getElem?_eq_getElem (by omega)] at cd ce
      have s3 := (s2.rowSet (k * 2) (.int .i64 p)).rowSet (k * 2 + 1) (.int .i64 q)
      clear c0 c1 s1 s2
      go_wp2_with fail
      go_roundw
      case rel => exact ⟨k + 1, _, hlt, by go_num, HT.out, s3⟩
      case measure => simp [intOf]; omega
    · have ek : k = us.length := by omega
      rw [List.take_of_length_le (by omega), List.take_of_length_le (by omega)] at ht
      subst ht
      go_wp2_with fail
      go_ret
      exact madeUpds s1 rfl

theorem eqUpdate_eq (k v : Int) (w : World) :
    Calls Tryd.prog 46 #[.agg #[.int .i64 k, .int .i64 v], .agg #[.int .i64 k, .int .i64 v]] w fun e w' => e = .returned (.bool true) ∧ Below w.heap.size w w' := by
  have hB : Below w.heap.size w ((w.alloc (.cells #[.int .i64 k, .int .i64 v] 25)).alloc (.cells #[.int .i64 k, .int .i64 v] 25)) := ((Below.refl _ _).alloc (Nat.le_refl _) _).alloc (by simp) _
  go_enter Tryd.func46, Tryd.ntmps46
  go_wp2_with fail
  go_ret
  exact ⟨rfl, hB⟩

set_option maxHeartbeats 1000000 in
theorem eqUpdateS_eq (a a' : Option Addr) (cap cap' : Nat) (us : List Upd) (w : World) (hm : us.length ≤ 1099511627776) (hx : UpdsAt w a us) (hy : UpdsAt w a' us) :
    Calls Tryd.prog 21 #[.slice a us.length cap, .slice a' us.length cap'] w fun e w' => e = .returned (.bool true) ∧ Below w.heap.size w w' := by
  go_enter Tryd.func21, Tryd.ntmps21
  go_wp2_with fail
  go_loopw [5] (fun i wr => ∃ k : Nat, k ≤ us.length ∧ i = .int .i64 k ∧ Below w.heap.size w wr) (fun i _ => us.length - (intOf i).toNat)
  case atStart => exact ⟨0, Nat.zero_le _, rfl, Below.refl _ _⟩
  case round =>
    obtain ⟨k, hk, rfl, hB⟩ := hrel
    by_cases hlt : k < us.length
    · obtain ⟨b, off, rfl, c0, c1⟩ := (hx.below hB).cells k hlt
      obtain ⟨b', off', rfl, c0', c1'⟩ := (hy.below hB).cells k hlt
      have i1 : (0 : Int) ≤ (k : Int) := by omega
      have i2 : (k : Int) < (us.length : Int) := by omega
      generalize us[k].1 = p at *
      generalize us[k].2 = q at *
      have l0 := lt_of_cell c0
      have l1 := lt_of_cell c0'
      go_wp2_with fail
      go_region_held3 (fun w' => w'.cell? ⟨b, off + k * 2, none⟩ = some (.int .i64 p) ∧ w'.cell? ⟨b, off + k * 2 + 1, none⟩ = some (.int .i64 q) ∧ w'.cell? ⟨b', off' + k * 2, none⟩ = some (.int .i64 p) ∧ w'.cell? ⟨b', off' + k * 2 + 1, none⟩ = some (.int .i64 q))
        (first | go_keep | assumption | (go_split_ands; exact ⟨e0, e1, e2, e3⟩))
        ((go_at_call 46; refine (eqUpdate_eq _ _ _).mono ?_; rintro e w1 ⟨rfl, hb1'⟩; have hb1 := drew_below hb1'; have e0 := (hb1.cell (p := ⟨b, off + k * 2, none⟩) l0).trans c0; have e1 := (hb1.cell (p := ⟨b, off + k * 2 + 1, none⟩) l0).trans c1; have e2 := (hb1.cell (p := ⟨b', off' + k * 2, none⟩) l1).trans c0'; have e3 := (hb1.cell (p := ⟨b', off' + k * 2 + 1, none⟩) l1).trans c1'))
      go_wp2_with fail
      go_roundw
      case rel => exact ⟨k + 1, hlt, by go_num, hB.trans (hb1.mono hB.size)⟩
      case measure => simp [intOf]; omega
    · go_wp2_with fail
      go_ret
      exact ⟨rfl, hB⟩

set_option maxHeartbeats 1000000 in
theorem markUpdateS_st {w0 w : World} {rs : List Res} (a : Option Addr) (n cap : Nat) (k : Int) (cs0 : List Value) (h : St w0 w (row (.slice a n cap) 25 2 n cs0 :: rs)) (hn : n ≤ 2097152) (hk0 : 0 ≤ k) (hk : k ≤ 1000000000) :
    Calls Tryd.prog 33 #[.slice a n cap, .int .i64 k] w fun e w' => e = .returned (.int .i64 (k + 2 * n)) ∧ St w0 w' (row (.slice a n cap) 25 2 n ((seqInts k (n * 2)).map (Value.int .i64)) :: rs) := by
  by_cases h0 : 0 < n
  · obtain ⟨g, c, e, _, _⟩ := h.own.form h0
    cases e
    go_enter Tryd.func33, Tryd.ntmps33
    go_wp2_with fail
    go_loopw [1, 5] (fun kk i wr => ∃ (j : Nat) (cs : List Value), j ≤ n ∧ i = .int .i64 j ∧ kk = .int .i64 (k + 2 * j) ∧ cs.take (j * 2) = (seqInts k (j * 2)).map (Value.int .i64) ∧ St w0 wr (row (.slice (some ⟨g, 0, none⟩) n cap) 25 2 n cs :: rs)) (fun _ i _ => n - (intOf i).toNat)
    case atStart => exact ⟨0, cs0, Nat.zero_le _, rfl, by simp, rfl, h⟩
    case round =>
      clear h
      obtain ⟨j, cs, hj, rfl, rfl, ht, s1⟩ := hrel
      have hl := s1.own.1
      by_cases hlt : j < n
      · have cd := s1.own.cellAt (j * 2) (by omega)
        have ce := s1.own.cellAt (j * 2 + 1) (by omega)
        have fd := s1.own.frozenAt (j * 2)
        have fe := s1.own.frozenAt (j * 2 + 1)
        rw [List.getElem?_eq_getElem (by omega)] at cd ce
        have HT := Lib.hid (seq_set2 (k := k) (j := j) (by omega) ht)
        have s2 := (s1.rowSet (j * 2) (.int .i64 (k + (j * 2 : Nat)))).rowSet (j * 2 + 1) (.int .i64 (k + (j * 2 + 1 : Nat)))
        have e1 : k + ((j * 2 : Nat) : Int) = k + 2 * (j : Int) := by omega
        have e2 : k + ((j * 2 + 1 : Nat) : Int) = k + 2 * (j : Int) + 1 := by omega
        have HE1 := Lib.hid e1; have HE2 := Lib.hid e2
        rw [e1, e2] at s2
        have i1 : (0 : Int) ≤ (j : Int) := by omega
        have i2 : (j : Int) < (n : Int) := by omega
        clear ht e1 e2
        go_wp2_with fail
        go_roundw
        case rel => exact ⟨j + 1, _, hlt, by go_num, by go_num, by have := HT.out; rw [HE1.out, HE2.out] at this; exact this, s2⟩
        case measure => simp [intOf]; omega
      · have ej : j = n := by omega
        subst ej
        rw [List.take_of_length_le (by omega)] at ht
        subst ht
        go_wp2_with fail
        go_ret
        exact ⟨rfl, s1⟩
  · obtain rfl : n = 0 := by omega
    have hl := h.own.1
    obtain rfl : cs0 = [] := List.eq_nil_of_length_eq_zero (by omega)
    go_enter Tryd.func33, Tryd.ntmps33
    go_wp2_with fail
    go_loop [1, 5] (fun kk i => i = .int .i64 0 ∧ kk = .int .i64 k) (fun _ _ => 0)
    case atStart => exact ⟨rfl, rfl⟩
    case round =>
      obtain ⟨rfl, rfl⟩ := hrel
      go_wp2_with fail
      go_ret
      exact ⟨by simp, h⟩

end Go.Proofs.YtebklbncfcdkmaaDoor
