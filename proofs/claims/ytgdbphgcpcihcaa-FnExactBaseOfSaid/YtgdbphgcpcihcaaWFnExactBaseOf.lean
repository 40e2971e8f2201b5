/-
  The walk of FnExactBaseOf.
-/
import Derived.Test.YtgdbphgcpcihcaaB8
import Derived.Test.YtgdbphgcpcihcaaE4
import Derived.Test.YtgdbphgcpcihcaaE5
import Derived.Test.YtgdbphgcpcihcaaE6
import Derived.Test.YtgdbphgcpcihcaaOp5
import Derived.Test.YtgdbphgcpcihcaaOc
import Derived.Deep.RegionHeld3
namespace Go.Proofs.Ytgdbphgcpcihcaa.fnExactBaseOf
open Go.RowKit Go.Proofs.Ytgdbphgcpcihcaa

theorem ten {w0 w : World} {b0 b3 b5 b9 : Nat} {c0 c3 c5 c9 : Array Value} {t t' t'' : TypeId} {GU GS X U S A : Res} (s : St w0 w [box b0 c0 t, GU, GS, box b3 c3 t', X, box b5 c5 t, U, S, A, box b9 c9 t'']) :
    (∀ o, w.cell? ⟨b0, o, none⟩ = c0[o]?) ∧ (∀ o, w.cell? ⟨b3, o, none⟩ = c3[o]?) ∧ (∀ o, w.cell? ⟨b5, o, none⟩ = c5[o]?) ∧ (∀ o, w.cell? ⟨b9, o, none⟩ = c9[o]?) :=
  ⟨s.cells.1, s.drop.drop.drop.cells.1, s.drop.drop.drop.drop.drop.cells.1, s.drop.drop.drop.drop.drop.drop.drop.drop.drop.cells.1⟩

theorem stateLen {nid : Int} {us : List Upd} {done : Int} : (baseState nid us done).length ≤ 5 := by
  unfold baseState stateAt
  split
  · split
    · rw [runTo_len]; exact Nat.le_refl 5
    · simp
  · simp
theorem pendLen {nid : Int} {us : List Upd} {done : Int} : (pendingOf nid us done).length ≤ us.length := by
  unfold pendingOf
  split
  · simp
  · simp

set_option maxHeartbeats 4000000 in
theorem walk (v0 : Value) (w : World) (h0 : IsNodeV w v0) :
    Calls Try.prog 9 #[v0] w fun e w' => e = .returned (.bool true) ∧ Below w.heap.size w w' := by
  obtain ⟨nid, u, done, rfl, hfit, hfit', a, cap, us, rfl, hc, hm, hx⟩ := h0
  clear hfit hfit'
  unfold maxLen at hm
  have s0 := (St.start w).alloc (.cells #[.int .i64 nid, .slice a us.length cap, .int .i64 done] 53)
  by_cases hl : us.length ≤ 1048576
  · have l1 : us.length ≤ 2097152 := by omega
    have l2 : us.length ≤ 1099511627776 := by omega
    have z1 : 0 ≤ (1048576 : Int) - (us.length : Int) := by omega
    have hsl := stateLen (nid := nid) (us := us) (done := done)
    have hpl := pendLen (nid := nid) (us := us) (done := done)
    have SP := Lib.hid (fun A C W hc (h : UpdsAt W A us) => specBaseOf_calls A C nid done us W l2 hc h)
    have IM := Lib.hid (fun A C W hc (h : UpdsAt W A us) => baseOf_calls A C nid done us W l2 hc h)
    unfold GaveBase at SP IM
    generalize baseMany nid us done = bm at *
    generalize baseState nid us done = st at *
    generalize pendingOf nid us done = pd at *
    generalize nodeOk nid us done = ok at *
    have p1 : pd.length ≤ 2097152 := by omega
    have p2 : pd.length ≤ 1099511627776 := by omega
    have t1 : st.length ≤ 2097152 := by omega
    have t2 : st.length ≤ 1099511627776 := by omega
    go_enter Try.func9, Try.ntmps9
    go_wp2_with fail
    refine (szNode_yes nid done a us.length cap 1048576 _ (by omega) (by omega)).mono ?_
    rintro e w1 ⟨rfl, hb1⟩
    have s1 := s0.call hb1
    obtain ⟨c1, _⟩ := s1.cells
    clear s0 hb1
    go_wp2_with fail
    refine (toNode_calls nid done a cap us _ l1 (hx.below s1.below)).mono ?_
    rintro e w2 ⟨a2, cap2, rfl, ho2, hb2⟩
    have s2 := s1.fresh hb2 ho2 (Nat.le_refl _)
    clear s1 hb2 ho2 c1
    go_wp2_with fail
    refine (SP.out a2 cap2 _ (own_cap s2.own) (own_cellsR s2.own)).mono ?_
    rintro e w5 ⟨a8, cap8, b8, capb8, rfl, ss⟩
    have s5 := s2.join ss
    simp only [List.cons_append, List.nil_append] at s5
    clear s2 ss
    have s6 := s5.alloc (.cells #[.int .i64 bm, .slice a8 st.length cap8] 29)
    obtain ⟨c3, _⟩ := s5.drop.drop.drop.cells
    have q3 := s5.drop.drop.drop.lt.2
    go_wp2_with fail
    refine (toNode_calls nid done a cap us _ l1 (hx.below s6.below)).mono ?_
    rintro e w7 ⟨a10, cap10, rfl, ho7, hb7⟩
    have s7 := (s6.fresh hb7 ho7 (Nat.le_refl _))
    have s8 := s7.alloc (.cells #[.int .i64 nid, .slice a10 us.length cap10, .int .i64 done] 25)
    obtain ⟨c10, _⟩ := s8.cells
    clear s5 s6 ho7 hb7 c3 q3
    go_wp2_with fail
    refine (IM.out a10 cap10 _ (own_cap s8.drop.own) (own_cellsR s8.drop.own)).mono ?_
    rintro e w11 ⟨a13, cap13, b13, capb13, rfl, ss⟩
    have s11 := s8.join ss
    simp only [List.cons_append, List.nil_append] at s11
    have s12 := s11.alloc (.cells #[.int .i64 bm, .slice a13 st.length cap13] 29)
    obtain ⟨c8, _⟩ := s11.drop.drop.drop.drop.cells
    have q8 := s11.drop.drop.drop.drop.lt.2
    clear s7 s8 ss c10
    go_wp2_with fail
    refine (eqBase_eq _ _ _ _ _ _ _ t2 (own_intsR s12.drop.drop.own) (own_intsR s12.drop.drop.drop.drop.drop.drop.drop.own)).mono ?_
    rintro e w13 ⟨rfl, hb13⟩
    have s13 := s12.call hb13
    obtain ⟨d13, d10, d8, d3⟩ := ten s13
    clear s11 s12 hb13 c8 q8
    go_wp2_with fail
    refine (eqUpdateS_eq _ _ _ _ _ _ p2 (own_cellsR s13.drop.own) (own_cellsR s13.drop.drop.drop.drop.drop.drop.own)).mono ?_
    rintro e w13' ⟨rfl, hb13⟩
    have s13 := s13.call hb13
    clear d13 d10 d8 d3 hb13
    obtain ⟨d13, d10, d8, d3⟩ := ten s13
    go_wp2_with fail
    have hx13 := hx.below s13.below
    have k0 := d10 0
    have k1 := d10 1
    have k2 := d10 2
    have k3 := d3 0
    have k4 := d3 1
    have k5 := d3 2
    simp at k0 k1 k2 k3 k4 k5
    have p0 := s13.drop.drop.drop.lt.2
    have p3 := s13.drop.drop.drop.drop.drop.drop.drop.drop.drop.lt.2
    clear d13 d10 d8 d3
    go_region_held3 (fun w' => w'.cell? ⟨w7.heap.size, 0, none⟩ = some (.int .i64 nid) ∧ w'.cell? ⟨w7.heap.size, 1, none⟩ = some (.slice a10 us.length cap10) ∧ w'.cell? ⟨w7.heap.size, 2, none⟩ = some (.int .i64 done) ∧ w'.cell? ⟨w.heap.size, 0, none⟩ = some (.int .i64 nid) ∧ w'.cell? ⟨w.heap.size, 1, none⟩ = some (.slice a us.length cap) ∧ w'.cell? ⟨w.heap.size, 2, none⟩ = some (.int .i64 done))
      (first | go_keep | assumption | (go_split_ands; exact ⟨e0, e1, e2, e3, e4, e5⟩) | (go_split_ands; exact ⟨f0, f1, f2, f3, f4, f5⟩))
      ((first | (go_at_call 34; refine (toNode_calls nid done a cap us _ l1 (by exact hx13)).mono ?_; rintro e w14 ⟨a14, cap14, rfl, ho14, hb14'⟩; have hb14 := drew_below hb14'; have s14 := s13.call hb14; have e0 := (hb14.cell (p := ⟨w7.heap.size, 0, none⟩) p0).trans k0; have e1 := (hb14.cell (p := ⟨w7.heap.size, 1, none⟩) p0).trans k1; have e2 := (hb14.cell (p := ⟨w7.heap.size, 2, none⟩) p0).trans k2; have e3 := (hb14.cell (p := ⟨w.heap.size, 0, none⟩) p3).trans k3; have e4 := (hb14.cell (p := ⟨w.heap.size, 1, none⟩) p3).trans k4; have e5 := (hb14.cell (p := ⟨w.heap.size, 2, none⟩) p3).trans k5) | (go_at_call 35; refine (eqNode_eq _ _ _ _ _ _ _ _ l2 (by exact (own_cellsR s14.drop.drop.drop.drop.own)) (by exact (own_cellsR ho14))).mono ?_; rintro e w15 ⟨rfl, hb15⟩; have s15 := s14.call hb15; have z := hb14.size; have f0 := (hb15.cell (p := ⟨w7.heap.size, 0, none⟩) (Nat.lt_of_lt_of_le p0 z)).trans e0; have f1 := (hb15.cell (p := ⟨w7.heap.size, 1, none⟩) (Nat.lt_of_lt_of_le p0 z)).trans e1; have f2 := (hb15.cell (p := ⟨w7.heap.size, 2, none⟩) (Nat.lt_of_lt_of_le p0 z)).trans e2; have f3 := (hb15.cell (p := ⟨w.heap.size, 0, none⟩) (Nat.lt_of_lt_of_le p3 z)).trans e3; have f4 := (hb15.cell (p := ⟨w.heap.size, 1, none⟩) (Nat.lt_of_lt_of_le p3 z)).trans e4; have f5 := (hb15.cell (p := ⟨w.heap.size, 2, none⟩) (Nat.lt_of_lt_of_le p3 z)).trans e5)))
    clear s13 s14 hb14 hb14' hb15 ho14 e0 e1 e2 e3 e4 e5 f0 f1 f2 f3 f4 f5 k0 k1 k2 k3 k4 k5 z hx13 p0 p3
    obtain ⟨d13, d10, d8, d3⟩ := ten s15
    go_wp2_with fail
    refine (markNode_st _ _ _ _ _ _ _ s15.at4 l1 (by omega) (by omega)).mono ?_
    rintro e w20 ⟨rfl, s20⟩
    have s22 := s20.to4
    clear s15 s20 d13 d10 d8 d3
    obtain ⟨d13, d10, d8, d3⟩ := ten s22
    have y1 : 0 ≤ 1 + 2 * (us.length : Int) := by omega
    have y1' : 0 ≤ 1 + (us.length : Int) * 2 := by omega
    go_wp2_with fail
    refine (eqBase_eq _ _ _ _ _ _ _ t2 (own_intsR s22.drop.drop.own) (own_intsR s22.drop.drop.drop.drop.drop.drop.drop.own)).mono ?_
    rintro e w23 ⟨rfl, hb23⟩
    have s23 := s22.call hb23
    clear s22 hb23 d13 d10 d8 d3
    obtain ⟨d13, d10, d8, d3⟩ := ten s23
    go_wp2_with fail
    refine (eqUpdateS_eq _ _ _ _ _ _ p2 (own_cellsR s23.drop.own) (own_cellsR s23.drop.drop.drop.drop.drop.drop.own)).mono ?_
    rintro e w23' ⟨rfl, hb23⟩
    have s23 := s23.call hb23
    clear hb23 d13 d10 d8 d3
    obtain ⟨d13, d10, d8, d3⟩ := ten s23
    go_wp2_with fail
    refine (markBase_st _ _ _ _ _ _ s23.at2 t1 (by omega) (by omega)).mono ?_
    rintro e w24 ⟨rfl, s24⟩
    have s24 := s24.to2
    clear s23 d13 d10 d8 d3
    go_wp2_with fail
    refine (markUpdateS_st _ _ _ _ _ s24.at1 p1 (by omega) (by omega)).mono ?_
    rintro e w24' ⟨rfl, s24'⟩
    have s24 := s24'.to1
    clear s24'
    obtain ⟨d13, d10, d8, d3⟩ := ten s24
    have y2 : 0 ≤ 1 + (st.length : Int) := by omega
    have y3 : 0 ≤ 1 + (st.length : Int) + 2 * (pd.length : Int) := by omega
    go_wp2_with fail
    refine (heldBase_calls _ _ _ _ _ _ (own_cellsR s24.drop.drop.own) t1 (by omega) (by omega)).mono ?_
    rintro e w25 ⟨rfl, hb25⟩
    have s25 := s24.call hb25
    clear s24 hb25 d13 d10 d8 d3
    obtain ⟨d13, d10, d8, d3⟩ := ten s25
    go_wp2_with fail
    refine (heldUpdateS_calls _ _ _ _ _ (own_cellsR s25.drop.own) p1 (by omega) (by omega)).mono ?_
    rintro e w25' ⟨rfl, rfl⟩
    go_wp2_with fail
    refine (toNode_calls nid done a cap us _ l1 (hx.below s25.below)).mono ?_
    rintro e w26 ⟨a26, cap26, rfl, ho26, hb26⟩
    have s26 := s25.fresh hb26 ho26 (Nat.le_refl _)
    clear s25 hb26 ho26 d13 d10 d8 d3
    go_wp2_with fail
    refine (IM.out a26 cap26 _ (own_cap s26.own) (own_cellsR s26.own)).mono ?_
    rintro e w29 ⟨a29, cap29, b29, capb29, rfl, ss⟩
    have s29 := s26.join ss
    simp only [List.cons_append, List.nil_append] at s29
    have s30 := s29.alloc (.cells #[.int .i64 bm, .slice a29 st.length cap29] 29)
    obtain ⟨d13, d10, d8, d3⟩ := ten s29.drop.drop.drop
    have q8 := s29.drop.drop.drop.drop.drop.drop.drop.drop.lt.2
    clear s26 ss
    go_wp2_with fail
    refine (eqBase_eq _ _ _ _ _ _ _ t2 (own_intsR s30.drop.drop.own) (own_intsR s30.drop.drop.drop.drop.drop.drop.drop.drop.drop.drop.drop.own)).mono ?_
    rintro e w31 ⟨rfl, hb31⟩
    have s31 := s30.call hb31
    clear s29 s30 hb31 d13 d10 d8 d3 q8
    obtain ⟨d13, d10, d8, d3⟩ := ten s31.drop.drop.drop.drop
    go_wp2_with fail
    refine (eqUpdateS_eq _ _ _ _ _ _ p2 (own_cellsR s31.drop.own) (own_cellsR s31.drop.drop.drop.drop.drop.drop.drop.drop.drop.drop.own)).mono ?_
    rintro e w31' ⟨rfl, hb31⟩
    have s31 := s31.drop.drop.drop.drop.call hb31
    clear hb31 d13 d10 d8 d3
    obtain ⟨d13, d10, d8, d3⟩ := ten s31
    go_wp2_with fail
    refine (heldBase_calls _ _ _ _ _ _ (own_cellsR s31.drop.drop.own) t1 (by omega) (by omega)).mono ?_
    rintro e w32 ⟨rfl, hb32⟩
    have s32 := s31.call hb32
    clear s31 hb32 d13 d10 d8 d3
    obtain ⟨d13, d10, d8, d3⟩ := ten s32
    go_wp2_with fail
    refine (heldUpdateS_calls _ _ _ _ _ (own_cellsR s32.drop.own) p1 (by omega) (by omega)).mono ?_
    rintro e w32' ⟨rfl, rfl⟩
    go_wp2_with fail
    go_ret
    exact ⟨rfl, s32.below⟩
  · go_enter Try.func9, Try.ntmps9
    go_wp2_with fail
    refine (szNode_no nid done a us.length cap 1048576 _ (by omega) (by omega) (by omega) (by omega)).mono ?_
    rintro e w1 ⟨rfl, hb1⟩
    have s1 := s0.call hb1
    go_wp2_with fail
    go_ret
    exact ⟨rfl, s1.below⟩

end Go.Proofs.Ytgdbphgcpcihcaa.fnExactBaseOf
