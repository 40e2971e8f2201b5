
/-
  The walks of the laws' own functions on moves. No statement is proved here.
-/
import Derived.Test.YtcnanhjagefmjaaX18
import Derived.Test.YtcnanhjagefmjaaX13
import Derived.Test.YtcnanhjagefmjaaE1
namespace Go.Proofs.Ytcnanhjagefmjaa
open Go.RowKit

theorem CellsAt.move {w : World} {a : Option Addr} {ms : List Mv} (h : CellsAt w a (mcells ms)) (k : Nat) (hk : k < ms.length) :
    ∃ b off, a = some ⟨b, off, none⟩ ∧ w.cell? ⟨b, off + k * 3, none⟩ = some (.int .i64 ms[k].1) ∧ w.cell? ⟨b, off + k * 3 + 1, none⟩ = some (.int .i64 ms[k].2.1) ∧ w.cell? ⟨b, off + k * 3 + 2, none⟩ = some (.int .i64 ms[k].2.2) := by
  have hl := mcells_len ms
  rcases h with h | ⟨b, off, rfl, hc⟩
  · rw [h] at hl; simp at hl; omega
  · obtain ⟨h0, h1, h2⟩ := mcells_at ms k hk
    refine ⟨b, off, rfl, ?_, ?_, ?_⟩
    · rw [hc _ (by omega), h0]
    · rw [Nat.add_assoc, hc _ (by omega), h1]
    · rw [Nat.add_assoc, hc _ (by omega), h2]

set_option maxHeartbeats 1000000 in
theorem sameMoves_eq (a a' : Option Addr) (cap cap' : Nat) (ms : List Mv) (w : World) (hm : ms.length ≤ 1099511627776) (hx : CellsAt w a (mcells ms)) (hy : CellsAt w a' (mcells ms)) :
    Calls Try.prog 31 #[.slice a ms.length cap, .slice a' ms.length cap'] w fun e w' => e = .returned (.bool true) ∧ Below w.heap.size w w' := by
  go_enter Try.func31, Try.ntmps31
  go_wp2_with fail
  go_loopw [5] (fun i wr => ∃ k n : Nat, k ≤ ms.length ∧ i = .int .i64 k ∧ wr = w.drewN n) (fun i _ => ms.length - (intOf i).toNat)
  case atStart => exact ⟨0, 0, Nat.zero_le _, rfl, rfl⟩
  case round =>
    obtain ⟨k, n, hk, rfl, rfl⟩ := hrel
    by_cases hlt : k < ms.length
    · obtain ⟨b, off, rfl, c0, c1, c2⟩ := hx.move k hlt
      obtain ⟨b', off', rfl, d0, d1, d2⟩ := hy.move k hlt
      have i1 : (0 : Int) ≤ (k : Int) := by omega
      have i2 : (k : Int) < (ms.length : Int) := by omega
      generalize ms[k] = q at *
      go_wp2_with fail
      go_quiet (fail)
      go_wp2_with fail
      go_roundw
      case rel => exact ⟨k + 1, _, hlt, by go_num, rfl⟩
      case measure => simp [intOf]; omega
    · go_wp2_with fail
      go_ret
      exact ⟨rfl, below_drewN (Below.refl _ _) _⟩

set_option maxHeartbeats 1000000 in
theorem eqMove_eq (p f t : Int) (w : World) :
    Calls Try.prog 54 #[.agg #[.int .i64 p, .int .i64 f, .int .i64 t], .agg #[.int .i64 p, .int .i64 f, .int .i64 t]] w fun e w' => e = .returned (.bool true) ∧ Below w.heap.size w w' := by
  have hB2 : Below w.heap.size w ((w.alloc (.cells #[.int .i64 p, .int .i64 f, .int .i64 t] 46)).alloc (.cells #[.int .i64 p, .int .i64 f, .int .i64 t] 46)) := ((Below.refl _ _).alloc (Nat.le_refl _) _).alloc (by simp) _
  go_enter Try.func54, Try.ntmps54
  go_wp2_with fail
  go_ret
  exact ⟨rfl, hB2⟩
set_option maxRecDepth 100000 in
set_option maxHeartbeats 2000000 in
theorem eqMoveS_eq (a a' : Option Addr) (cap cap' : Nat) (ms : List Mv) (w : World) (hm : ms.length ≤ 1099511627776) (hx : CellsAt w a (mcells ms)) (hy : CellsAt w a' (mcells ms)) :
    Calls Try.prog 32 #[.slice a ms.length cap, .slice a' ms.length cap'] w fun e w' => e = .returned (.bool true) ∧ Below w.heap.size w w' := by
  go_enter Try.func32, Try.ntmps32
  go_wp2_with fail
  go_loopw [5] (fun i wr => ∃ k : Nat, k ≤ ms.length ∧ i = .int .i64 k ∧ Below w.heap.size w wr) (fun i _ => ms.length - (intOf i).toNat)
  case atStart => exact ⟨0, Nat.zero_le _, rfl, Below.refl _ _⟩
  case round =>
    obtain ⟨k, hk, rfl, hb⟩ := hrel
    by_cases hlt : k < ms.length
    · obtain ⟨b, off, rfl, c0, c1, c2⟩ := (hx.below hb).move k hlt
      obtain ⟨b', off', rfl, d0, d1, d2⟩ := (hy.below hb).move k hlt
      have i1 : (0 : Int) ≤ (k : Int) := by omega
      have i2 : (k : Int) < (ms.length : Int) := by omega
      generalize ms[k] = q at *
      obtain ⟨S, hS⟩ := Mix.named (fun w' => w'.cell? ⟨b, off + k * 3, none⟩ = some (.int .i64 q.1) ∧ w'.cell? ⟨b, off + k * 3 + 1, none⟩ = some (.int .i64 q.2.1) ∧ w'.cell? ⟨b, off + k * 3 + 2, none⟩ = some (.int .i64 q.2.2) ∧ w'.cell? ⟨b', off' + k * 3, none⟩ = some (.int .i64 q.1) ∧ w'.cell? ⟨b', off' + k * 3 + 1, none⟩ = some (.int .i64 q.2.1) ∧ w'.cell? ⟨b', off' + k * 3 + 2, none⟩ = some (.int .i64 q.2.2))
      have HS := Lib.hid hS
      have e0 := Mix.held_cell (fun w h => ((hS w).1 h).1)
      have e1 := Mix.held_cell (fun w h => ((hS w).1 h).2.1)
      have e2 := Mix.held_cell (fun w h => ((hS w).1 h).2.2.1)
      have e3 := Mix.held_cell (fun w h => ((hS w).1 h).2.2.2.1)
      have e4 := Mix.held_cell (fun w h => ((hS w).1 h).2.2.2.2.1)
      have e5 := Mix.held_cell (fun w h => ((hS w).1 h).2.2.2.2.2)
      clear hS
      have SO := Lib.hid (fun W (h : Below wr.heap.size wr W) => (HS.out W).2 ⟨(h.cell (p := ⟨b, off + k * 3, none⟩) (lt_of_cell c0)).trans c0, (h.cell (p := ⟨b, off + k * 3 + 1, none⟩) (lt_of_cell c1)).trans c1, (h.cell (p := ⟨b, off + k * 3 + 2, none⟩) (lt_of_cell c2)).trans c2, (h.cell (p := ⟨b', off' + k * 3, none⟩) (lt_of_cell d0)).trans d0, (h.cell (p := ⟨b', off' + k * 3 + 1, none⟩) (lt_of_cell d1)).trans d1, (h.cell (p := ⟨b', off' + k * 3 + 2, none⟩) (lt_of_cell d2)).trans d2⟩)
      have B1 : Below wr.heap.size wr wr.drew := (Below.refl _ _).drew
      go_wp2_with fail
      refine Mix.start S 99 (by kernel_rfl) ?_
      refine Mix.take [0, 1, 2, 3, 4, 5, 6, 7] 2 (by kernel_rfl) (by kernel_rfl) (by kernel_rfl) (by intro c a a' w e h; exact ⟨e.symm.trans h.1, h.2⟩) (SO.out _ B1) ?_
      intro hne
      simp only [Mix.pickOps, List.filterMap_cons, List.filterMap_nil, List.getElem?_toArray, List.getElem?_cons_zero, List.getElem?_cons_succ]
      repeat (refine Mix.cons_form ?_; go_big_quiet_step (fail))
      refine wpQuiet_nil ?_
      clear hne
      refine Mix.step (i := 8) (by kernel_rfl) rfl rfl ?_
      go_simp
      refine (eqMove_eq q.1 q.2.1 q.2.2 wr.drew).mono ?_
      rintro e w3 ⟨rfl, hb3⟩
      have B3 := B1.trans (hb3.mono B1.size)
      refine And.intro (SO.out _ B3) ?_
      go_simp
      refine Mix.take [9] 0 (by kernel_rfl) (by kernel_rfl) (by kernel_rfl) (by intro c a a' w e h; exact ⟨e.symm.trans h.1, h.2⟩) (SO.out _ B3) ?_
      intro hne
      simp only [Mix.pickOps, List.filterMap_cons, List.filterMap_nil, List.getElem?_toArray, List.getElem?_cons_zero, List.getElem?_cons_succ]
      repeat (refine Mix.cons_form ?_; go_big_quiet_step (fail))
      refine wpQuiet_nil ?_
      clear hne
      refine Mix.done (by kernel_rfl) ?_
      go_wp2_with fail
      go_roundw
      case rel => exact ⟨k + 1, hlt, by go_num, hb.trans (B3.mono hb.size)⟩
      case measure => simp [intOf]; omega
    · go_wp2_with fail
      go_ret
      exact ⟨rfl, hb⟩

theorem seq_set3 {cs : List Value} {k : Int} {j : Nat} (h : j * 3 + 2 < cs.length) (ht : cs.take (j * 3) = (seqInts k (j * 3)).map (Value.int .i64)) :
    (((cs.set (j * 3) (.int .i64 (k + (j * 3 : Nat)))).set (j * 3 + 1) (.int .i64 (k + (j * 3 + 1 : Nat)))).set (j * 3 + 2) (.int .i64 (k + (j * 3 + 2 : Nat)))).take ((j + 1) * 3) = (seqInts k ((j + 1) * 3)).map (Value.int .i64) := by
  have h1 := seq_set (k := k) (j := j * 3) (by omega) ht
  have h2 := seq_set (cs := cs.set (j * 3) (.int .i64 (k + (j * 3 : Nat)))) (k := k) (j := j * 3 + 1) (by simp; omega) h1
  have h3 := seq_set (cs := (cs.set (j * 3) (.int .i64 (k + (j * 3 : Nat)))).set (j * 3 + 1) (.int .i64 (k + (j * 3 + 1 : Nat)))) (k := k) (j := j * 3 + 2) (by simp; omega) h2
  rw [show (j + 1) * 3 = j * 3 + 2 + 1 by omega]
  exact h3

set_option maxHeartbeats 2000000 in
theorem markMoveS_st {w0 w : World} {rs : List Res} (a : Option Addr) (n cap : Nat) (k : Int) (cs0 : List Value) (h : St w0 w (row (.slice a n cap) 46 3 n cs0 :: rs)) (hn : n ≤ 2097152) (hk0 : 0 ≤ k) (hk : k ≤ 1000000000) :
    Calls Try.prog 33 #[.slice a n cap, .int .i64 k] w fun e w' => e = .returned (.int .i64 (k + 3 * n)) ∧ St w0 w' (row (.slice a n cap) 46 3 n ((seqInts k (n * 3)).map (Value.int .i64)) :: rs) := by
  by_cases h0 : 0 < n
  · obtain ⟨g, c, e, _, _⟩ := h.own.form h0
    cases e
    go_enter Try.func33, Try.ntmps33
    go_wp2_with fail
    go_loopw [1, 5] (fun kk i wr => ∃ (j : Nat) (cs : List Value), j ≤ n ∧ i = .int .i64 j ∧ kk = .int .i64 (k + 3 * j) ∧ cs.take (j * 3) = (seqInts k (j * 3)).map (Value.int .i64) ∧ St w0 wr (row (.slice (some ⟨g, 0, none⟩) n cap) 46 3 n cs :: rs)) (fun _ i _ => n - (intOf i).toNat)
    case atStart => exact ⟨0, cs0, Nat.zero_le _, rfl, by simp, rfl, h⟩
    case round =>
      clear h
      obtain ⟨j, cs, hj, rfl, rfl, ht, s1⟩ := hrel
      have hl := s1.own.1
      by_cases hlt : j < n
      · have cd := s1.own.cellAt (j * 3) (by omega)
        have ce := s1.own.cellAt (j * 3 + 1) (by omega)
        have cf := s1.own.cellAt (j * 3 + 2) (by omega)
        have fd := s1.own.frozenAt (j * 3)
        have fe := s1.own.frozenAt (j * 3 + 1)
        have ff := s1.own.frozenAt (j * 3 + 2)
        rw [List.getElem?_eq_getElem (by omega)] at cd ce cf
        have HT := Lib.hid (seq_set3 (k := k) (j := j) (by omega) ht)
        have s2 := ((s1.rowSet (j * 3) (.int .i64 (k + (j * 3 : Nat)))).rowSet (j * 3 + 1) (.int .i64 (k + (j * 3 + 1 : Nat)))).rowSet (j * 3 + 2) (.int .i64 (k + (j * 3 + 2 : Nat)))
        have e1 : k + ((j * 3 : Nat) : Int) = k + 3 * (j : Int) := by omega
        have e2 : k + ((j * 3 + 1 : Nat) : Int) = k + 3 * (j : Int) + 1 := by omega
        have e3 : k + ((j * 3 + 2 : Nat) : Int) = k + 3 * (j : Int) + 1 + 1 := by omega
        have HE1 := Lib.hid e1; have HE2 := Lib.hid e2; have HE3 := Lib.hid e3
        rw [e1, e2, e3] at s2
        have i1 : (0 : Int) ≤ (j : Int) := by omega
        have i2 : (j : Int) < (n : Int) := by omega
        clear ht e1 e2 e3
        go_wp2_with fail
        go_roundw
        case rel => exact ⟨j + 1, _, hlt, by go_num, by go_num, by have := HT.out; rw [HE1.out, HE2.out, HE3.out] at this; exact this, s2⟩
        case measure => simp [intOf]; omega
      · have ej : j = n := by omega
        subst ej
        rw [List.take_of_length_le (by omega)] at ht
        subst ht
        go_wp2_with fail
        go_ret
        exact ⟨rfl, s1⟩
  · obtain rfl : n = 0 := by omega
    have hl := h.own.1
    obtain rfl : cs0 = [] := List.eq_nil_of_length_eq_zero (by omega)
    go_enter Try.func33, Try.ntmps33
    go_wp2_with fail
    go_loop [1, 5] (fun kk i => i = .int .i64 0 ∧ kk = .int .i64 k) (fun _ _ => 0)
    case atStart => exact ⟨rfl, rfl⟩
    case round =>
      obtain ⟨rfl, rfl⟩ := hrel
      go_wp2_with fail
      go_ret
      exact ⟨by simp, h⟩

set_option maxHeartbeats 2000000 in
theorem heldMoveS_calls (a : Option Addr) (n cap : Nat) (k : Int) (w : World) (h : CellsAt w a ((seqInts k (n * 3)).map (Value.int .i64))) (hn : n ≤ 2097152) (hk0 : 0 ≤ k) (hk : k ≤ 1000000000) :
    Calls Try.prog 34 #[.slice a n cap, .int .i64 k] w fun e w' => e = .returned (.int .i64 (k + 3 * n)) ∧ w = w' := by
  have H := Lib.hid h
  clear h
  go_enter Try.func34, Try.ntmps34
  go_wp2_with fail
  go_loop [1, 5] (fun kk i => ∃ j : Nat, j ≤ n ∧ i = .int .i64 j ∧ kk = .int .i64 (k + 3 * j)) (fun _ i => n - (intOf i).toNat)
  case atStart => exact ⟨0, Nat.zero_le _, rfl, by simp⟩
  case round =>
    obtain ⟨j, hj, rfl, rfl⟩ := hrel
    by_cases hlt : j < n
    · obtain ⟨g, off, rfl, c0, c1, c2⟩ : ∃ g off, a = some ⟨g, off, none⟩ ∧ w.cell? ⟨g, off + j * 3, none⟩ = some (.int .i64 (k + 3 * j)) ∧ w.cell? ⟨g, off + j * 3 + 1, none⟩ = some (.int .i64 (k + 3 * j + 1)) ∧ w.cell? ⟨g, off + j * 3 + 2, none⟩ = some (.int .i64 (k + 3 * j + 2)) := by
        rcases H.out with h | ⟨g, off, rfl, hc⟩
        · have := congrArg List.length h
          simp [seqInts_len] at this; omega
        · have hl : ((seqInts k (n * 3)).map (Value.int .i64)).length = n * 3 := by simp [seqInts_len]
          refine ⟨g, off, rfl, ?_, ?_, ?_⟩
          · rw [hc _ (by omega), List.getElem?_map, seqInts_at _ _ _ (by omega), Option.map_some, show k + ((j * 3 : Nat) : Int) = k + 3 * (j : Int) by omega]
          · rw [Nat.add_assoc, hc _ (by omega), List.getElem?_map, seqInts_at _ _ _ (by omega), Option.map_some, show k + ((j * 3 + 1 : Nat) : Int) = k + 3 * (j : Int) + 1 by omega]
          · rw [Nat.add_assoc, hc _ (by omega), List.getElem?_map, seqInts_at _ _ _ (by omega), Option.map_some, show k + ((j * 3 + 2 : Nat) : Int) = k + 3 * (j : Int) + 2 by omega]
      have i1 : (0 : Int) ≤ (j : Int) := by omega
      have i2 : (j : Int) < (n : Int) := by omega
      have i3 : k + 3 * (j : Int) + 1 + 1 = k + 3 * (j : Int) + 2 := by omega
      go_wp2_with fail
      go_round
      case rel => exact ⟨j + 1, hlt, by go_num, by go_num⟩
      case measure => simp [intOf]; omega
    · obtain rfl : j = n := by omega
      go_wp2_with fail
      go_ret
      exact ⟨rfl, rfl⟩

end Go.Proofs.Ytcnanhjagefmjaa
