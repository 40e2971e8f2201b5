/-
  The walks of the functions that draw a state and a base. No statement is proved here.
-/
import Derived.Test.YtgdbphgcpcihcaaB2
import Derived.Test.YtgdbphgcpcihcaaLg
import Derived.Test.YtgdbphgcpcihcaaJn
import Derived.Deep.RegionHeld3
namespace Go.Proofs.Ytgdbphgcpcihcaa
open Go.RowKit

theorem run_to {P : Program} (t e : TypeId) (size : Nat) (a : Option Addr) (len cap k : Nat) (hu : P.underlying t = some (.slice e)) (hs : (P.info? e).map (·.size) = some size) (hk : k ≤ cap) (w : World) :
    (Instr.slice t (.slice a len cap) none (some (.int .i64 k)) none).run P w = .ok (.slice a k cap) w := by
  cases hq : P.info? e with
  | none => simp [hq] at hs
  | some i =>
    have hi : i.size = size := by simpa [hq] using hs
    have h1 : (0 : Int) ≤ (k : Int) ∧ (k : Int) ≤ (cap : Int) := by omega
    cases a <;> simp [Instr.slice, run_underlying hu, Instr.sliceBounds, Instr.sliceBound, asIntOf, sizeOf, typeInfo, hq, hi, hk, Addr.add]
/-- A row, cut short. -/
theorem St.cutRow {w0 w : World} {rs : List Res} {g n cap size : Nat} {e : TypeId} {xs : List Value} (h : St w0 w (row (.slice (some ⟨g, 0, none⟩) n cap) e size n xs :: rs)) (k : Nat) (hk : k ≤ n) : St w0 w (row (.slice (some ⟨g, 0, none⟩) k cap) e size k (xs.take (k * size)) :: rs) := by
  refine h.turn (grown_refl w _) ?_ (fun _ h => .inl h) (fun b hb => ?_)
  · obtain ⟨hl, h2⟩ := h.1
    refine ⟨?_, ?_⟩
    · rw [List.length_take, hl]; exact Nat.min_eq_left (Nat.mul_le_mul_right _ hk)
    · rcases h2 with ⟨h3, _⟩ | ⟨g', cap', cur, h3, h4, h5, h6, h7, h8⟩
      · cases h3
      · cases h3
        refine .inr ⟨g, cap, cur, rfl, h4, Nat.le_trans hk h5, h6, h7, ?_⟩
        rw [← h8, List.take_take, Nat.min_eq_left (Nat.mul_le_mul_right _ hk)]
  · cases hb; exact (h.own.lt g rfl).2
theorem info_int6 : (Try.prog.info? 3).map (·.size) = some 1 := by kernel_rfl
theorem lit2 (x y : Int) (q : Int) (h0 : 0 ≤ q) (h1 : q < 2) : ∃ (k : Nat) (z : Int), q = (k : Int) ∧ k < 2 ∧ (#[Value.int .i64 x, Value.int .i64 y] : Array Value)[k]? = some (.int .i64 z) := by
  rcases (show q = 0 ∨ q = 1 by omega) with rfl | rfl
  · exact ⟨0, x, rfl, by omega, rfl⟩
  · exact ⟨1, y, rfl, by omega, rfl⟩

set_option maxHeartbeats 4000000 in
theorem l91State_st {w0 w : World} {rs : List Res} (b m : Nat) (h : St w0 w (rd w0 b m :: rs)) (hm : m ≤ 800000) :
    Calls Try.prog 76 #[.pointer (some ⟨b, 0, none⟩)] w fun e w' => ∃ (g n cap : Nat) (xs : List Int), e = .returned (.slice (some ⟨g, 0, none⟩) n cap) ∧ n = xs.length ∧ 4 ≤ n ∧ n ≤ 5 ∧ St w0 w' (row (.slice (some ⟨g, 0, none⟩) n cap) 3 1 n (xs.map (Value.int .i64)) :: rd w0 b (m + 13) :: rs) := by
  have s0 := (h.alloc (.cells #[] 3)).madeRow 1 0 rfl (by simp [maxLen]) 0 (Nat.le_refl _)
  simp only [List.take_nil] at s0
  go_enter Try.func76, Try.ntmps76
  go_wp2_with fail
  go_loopw [3, 4] (fun v i wr => ∃ (k : Nat) (xs : List Int), k ≤ 5 ∧ xs.length = k ∧ i = .int .i64 k ∧ (0 < k → ∃ g cap, v = .slice (some ⟨g, 0, none⟩) k cap) ∧ St w0 wr (row v 3 1 k (xs.map (Value.int .i64)) :: rd w0 b (m + 2 * k) :: rs)) (fun _ i _ => 5 - (intOf i).toNat)
  case atStart => exact ⟨0, [], Nat.zero_le _, rfl, rfl, by omega, s0⟩
  case round =>
    clear s0
    obtain ⟨k, xs, hk, hxl, rfl, hform, s4⟩ := hrel
    have HXL := Lib.hid hxl
    have HF := Lib.hid hform
    clear hxl hform
    by_cases hlt : k < 5
    · go_wp2_with fail
      refine (pick_st b (m + 2 * k) 100 s4.at1 (by omega) (by omega)).mono ?_
      rintro e w5 ⟨p, rfl, p0, p1, s5⟩
      clear s4 p0 p1
      have s6 := s5.alloc (.cells #[.int .i64 (-1), .int .i64 p] 3)
      go_wp2_with fail
      refine (pick_st b (m + 2 * k + 1) 2 s6.at1 (by omega) (by omega)).mono ?_
      rintro e w6 ⟨q, rfl, q0, q1, s7⟩
      have q2 := q1 (by omega)
      obtain ⟨j, z, rfl, hj, hz⟩ := lit2 (-1) p q q0 q2
      obtain ⟨c0, _⟩ := s7.at1.cells
      have cz : w6.cell? ⟨w5.heap.size, j, none⟩ = some (.int .i64 z) := by rw [c0 j, hz]
      have s8 := s7.at1.drop.at1
      have o5 := s8.own
      have lR := s8.size
      clear s5 s6 s7 c0 q1 hz
      go_wp2_with ((at_builtin; refine list_app elem_int (by rfl) _ _ (by rfl) w0.heap.size u3 k (xs.map (Value.int .i64)) (by rfl) w6.heap.size 1 1 (by rfl) #[.int .i64 z] 3 (0, 0) (by rfl) (by simp [Value.oneCell']) (by omega) (by omega) (by omega) (heap_alloc_new w6 _) (o5.alloc _) (by simp; omega) ?_); intro gg cap3 w7 hown hgrow hat hl)
      have s9 := s8.app (World.grownBy_alloc w6 _ none) hown hgrow hat hl
      clear hown hgrow hat hl o5 s8
      go_wp2_with fail
      go_roundw
      case rel => exact ⟨k + 1, xs ++ [z], hlt, by simp [HXL.out], by go_num, fun _ => ⟨gg, cap3, rfl⟩, by rw [show m + 2 * (k + 1) = m + 2 * k + 1 + 1 by omega]; simpa using s9⟩
      case measure => simp [intOf]; omega
    · obtain rfl : k = 5 := by omega
      obtain ⟨g, cap, rfl⟩ := HF.out (by omega)
      go_wp2_with fail
      refine (pick_st b (m + 2 * 5) 30 s4.at1 (by omega) (by omega)).mono ?_
      rintro e w5 ⟨p, rfl, p0, p1, s5⟩
      clear s4 p1
      by_cases hp0 : p = 0
      · subst hp0
        go_wp2_with fail
        refine (pick_st b (m + 2 * 5 + 1) 5 s5 (by omega) (by omega)).mono ?_
        rintro e w6 ⟨t, rfl, t0, t1, s6⟩
        have t2 := t1 (by omega)
        have s7 := s6.alloc (.cells #[.int .i64 (-2), .int .i64 100] 3)
        clear t1 s5 s6
        go_wp2_with fail
        refine (pick_st b (m + 2 * 5 + 1 + 1) 2 s7.at1 (by omega) (by omega)).mono ?_
        rintro e w7 ⟨q, rfl, q0, q1, s8⟩
        have q2 := q1 (by omega)
        obtain ⟨j, z, rfl, hj, hz⟩ := lit2 (-2) 100 q q0 q2
        obtain ⟨i, rfl⟩ := Int.eq_ofNat_of_zero_le t0
        have hi : i < 5 := by omega
        obtain ⟨c0, _⟩ := s8.at1.cells
        have cz : w7.cell? ⟨w6.heap.size, j, none⟩ = some (.int .i64 z) := by rw [c0 j, hz]
        have s9 := s8.at1.drop.at1
        have ci := s9.own.cellAt i (by omega)
        have fi := s9.own.frozenAt i
        rw [List.getElem?_eq_getElem (by rw [List.length_map, HXL.out]; exact hi)] at ci
        have s10 := s9.rowSet i (.int .i64 z)
        rw [show (xs.map (Value.int .i64)).set i (.int .i64 z) = (xs.set i z).map (Value.int .i64) by rw [List.map_set]] at s10
        clear s7 s8 c0 q1 hz s9
        go_wp2_with fail
        go_ret
        exact ⟨g, 5, cap, xs.set i z, rfl, by simp [HXL.out], by omega, by omega, s10⟩
      · have hp0' : (p == 0) = false := by simpa using hp0
        by_cases hp1 : p = 1
        · subst hp1
          have hcap : 4 ≤ cap := by
            rcases s5.at1.own.2 with ⟨h1, _⟩ | ⟨g', c', cur, h1, _, _, h2, _⟩
            · cases h1
            · cases h1; omega
          have hsl := run_to (P := Try.prog) 27 3 1 (some ⟨g, 0, none⟩) 5 cap 4 Try.underlying27 info_int6 hcap
          have s6 := (s5.at1.cutRow 4 (by omega))
          rw [← List.map_take] at s6
          clear s5
          go_wp2_with fail
          go_ret
          exact ⟨g, 4, cap, xs.take (4 * 1), rfl, by simp [HXL.out], by omega, by omega, (s6.at1.rdMono (by omega)).at1⟩
        · have hp1' : (p == 1) = false := by simpa using hp1
          go_wp2_with fail
          go_ret
          exact ⟨g, 5, cap, xs, rfl, HXL.out.symm, by omega, by omega, (s5.rdMono (by omega)).at1⟩

end Go.Proofs.Ytgdbphgcpcihcaa
