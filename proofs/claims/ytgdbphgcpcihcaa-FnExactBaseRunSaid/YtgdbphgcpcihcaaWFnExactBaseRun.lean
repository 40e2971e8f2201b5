/-
  The walk of FnExactBaseRun.
-/
import Derived.Test.YtgdbphgcpcihcaaB6
import Derived.Test.YtgdbphgcpcihcaaE3
import Derived.Test.YtgdbphgcpcihcaaE5
import Derived.Test.YtgdbphgcpcihcaaOp3
import Derived.Test.YtgdbphgcpcihcaaOp4
import Derived.Test.YtgdbphgcpcihcaaOc
import Derived.Deep.RegionHeld3
namespace Go.Proofs.Ytgdbphgcpcihcaa.fnExactBaseRun
open Go.RowKit Go.Proofs.Ytgdbphgcpcihcaa

theorem eight {w0 w : World} {b13 b10 b8 b3 : Nat} {c13 c10 c8 c3 : Array Value} {t t' : TypeId} {G X1 X0 R8 : Res} (s : St w0 w [box b13 c13 t, G, X1, box b10 c10 t, X0, box b8 c8 t, R8, box b3 c3 t']) :
    (∀ o, w.cell? ⟨b13, o, none⟩ = c13[o]?) ∧ (∀ o, w.cell? ⟨b10, o, none⟩ = c10[o]?) ∧ (∀ o, w.cell? ⟨b8, o, none⟩ = c8[o]?) ∧ (∀ o, w.cell? ⟨b3, o, none⟩ = c3[o]?) :=
  ⟨s.cells.1, s.drop.drop.drop.cells.1, s.drop.drop.drop.drop.drop.cells.1, s.drop.drop.drop.drop.drop.drop.drop.cells.1⟩

theorem runLen {many : Int} {s : List Int} {us : List Upd} (h : s.length ≤ 1048576) : (runState many s us).length ≤ 1048576 := by
  unfold runState
  split
  · rw [runTo_len]; exact h
  · simp

set_option maxHeartbeats 4000000 in
theorem walk (v0 v1 : Value) (w : World) (h0 : IsBaseV w v0) (h1 : IsUpdsV w v1) :
    Calls Try.prog 10 #[v0, v1] w fun e w' => e = .returned (.bool true) ∧ Below w.heap.size w w' := by
  obtain ⟨num, u, rfl, hfit, a, cap, xs, rfl, hc, hm, hx⟩ := h0
  obtain ⟨b, capb, us, rfl, hcb, hmb, hy⟩ := h1
  clear hfit
  unfold maxLen at hm hmb
  have s0 := (St.start w).alloc (.cells #[.int .i64 num, .slice a xs.length cap] 43)
  by_cases hl : xs.length ≤ 1048576
  · have z1 : 0 ≤ (1048576 : Int) - (xs.length : Int) := by omega
    by_cases hlu : us.length ≤ 1048576 - xs.length
    · have l1 : xs.length ≤ 2097152 := by omega
      have l2 : xs.length ≤ 1099511627776 := by omega
      have m1 : us.length ≤ 2097152 := by omega
      have m2 : us.length ≤ 1099511627776 := by omega
      have z2 : 0 ≤ (1048576 : Int) - (xs.length : Int) - (us.length : Int) := by omega
      have hyl := runLen (many := num) (us := us) hl
      have SP := Lib.hid (fun A A1 C C1 W (h : IntsAt W A xs) (h1 : UpdsAt W A1 us) => specBaseRun_calls A A1 C C1 num xs us W l2 m2 h h1)
      have IM := Lib.hid (fun A A1 C C1 W (h : IntsAt W A xs) (h1 : UpdsAt W A1 us) => baseRun_calls A A1 C C1 num xs us W l2 m2 h h1)
      unfold RanBase at SP IM
      generalize runMany num xs us = nn at *
      generalize runState num xs us = rs at *
      generalize runOk num xs us = ok at *
      have hyl2 : rs.length ≤ 2097152 := by omega
      have hyl3 : rs.length ≤ 1099511627776 := by omega
      go_enter Try.func10, Try.ntmps10
      go_wp2_with fail
      refine (szBase_yes num a xs.length cap 1048576 _ (by omega) (by omega)).mono ?_
      rintro e w1 ⟨rfl, hb1⟩
      have s1 := s0.call hb1
      obtain ⟨c1, _⟩ := s1.cells
      clear s0 hb1
      go_wp2_with fail
      refine (szUpdateS_yes b us.length capb _ _ (by omega) (by omega)).mono ?_
      rintro e w1' ⟨rfl, rfl⟩
      go_wp2_with fail
      refine (toBase_calls num a cap xs _ l1 (hx.below s1.below)).mono ?_
      rintro e w2 ⟨a2, cap2, rfl, ho2, hb2⟩
      have s2 := s1.fresh hb2 ho2 (Nat.le_refl _)
      go_wp2_with fail
      refine (toUpdateS_calls b capb us _ m1 (hy.below s2.below)).mono ?_
      rintro e w3 ⟨a3, cap3, rfl, ho3, hb3⟩
      have s3 := s2.fresh hb3 ho3 (Nat.le_refl _)
      clear s1 s2 hb2 hb3 ho2 ho3 c1
      go_wp2_with fail
      refine (SP.out a2 a3 cap2 cap3 _ (own_intsR s3.at1.own) (own_cellsR s3.own)).mono ?_
      rintro e w5 ⟨a8, cap8, rfl, ho5, hb5⟩
      have s5 := (s3.fresh hb5 ho5 (Nat.le_refl _)).under (fun h => h.drop.drop) (by simp)
      clear s3 ho5 hb5
      have s6 := s5.alloc (.cells #[.int .i64 nn, .slice a8 rs.length cap8] 29)
      obtain ⟨c3, _⟩ := s5.drop.cells
      have q3 := s5.drop.lt.2
      go_wp2_with fail
      refine (toBase_calls num a cap xs _ l1 (hx.below s6.below)).mono ?_
      rintro e w7 ⟨a10, cap10, rfl, ho7, hb7⟩
      have s7 := (s6.fresh hb7 ho7 (Nat.le_refl _))
      have s8 := s7.alloc (.cells #[.int .i64 num, .slice a10 xs.length cap10] 29)
      clear s5 s6 ho7 hb7 c3 q3
      go_wp2_with fail
      refine (toUpdateS_calls b capb us _ m1 (hy.below s8.below)).mono ?_
      rintro e w9 ⟨a11, cap11, rfl, ho9, hb9⟩
      have s9 := s8.fresh hb9 ho9 (Nat.le_refl _)
      clear s7 s8 ho9 hb9
      obtain ⟨c10, _⟩ := s9.drop.cells
      go_wp2_with fail
      refine (IM.out a10 a11 cap10 cap11 _ (own_intsR s9.drop.drop.own) (own_cellsR s9.own)).mono ?_
      rintro e w11 ⟨a13, cap13, rfl, ho11, hb11⟩
      have s11 := s9.fresh hb11 ho11 (Nat.le_refl _)
      have s12 := s11.alloc (.cells #[.int .i64 nn, .slice a13 rs.length cap13] 29)
      obtain ⟨c8, _⟩ := s11.drop.drop.drop.drop.cells
      have q8 := s11.drop.drop.drop.drop.lt.2
      clear s9 ho11 hb11 c10
      go_wp2_with fail
      refine (eqBase_eq _ _ _ _ _ _ _ hyl3 (own_intsR s12.drop.own) (own_intsR s12.drop.drop.drop.drop.drop.drop.own)).mono ?_
      rintro e w13 ⟨rfl, hb13⟩
      have s13 := s12.call hb13
      obtain ⟨d13, d10, d8, d3⟩ := eight s13
      clear s11 s12 hb13 c8 q8
      go_wp2_with fail
      have hx13 := hx.below s13.below
      have k0 := d10 0
      have k1 := d10 1
      have k2 := d3 0
      have k3 := d3 1
      simp at k0 k1 k2 k3
      have p0 := s13.drop.drop.drop.lt.2
      have p1 := s13.drop.drop.drop.drop.drop.drop.drop.lt.2
      clear d13 d10 d8 d3
      go_region_held3 (fun w' => w'.cell? ⟨w7.heap.size, 0, none⟩ = some (.int .i64 num) ∧ w'.cell? ⟨w7.heap.size, 1, none⟩ = some (.slice a10 xs.length cap10) ∧ w'.cell? ⟨w.heap.size, 0, none⟩ = some (.int .i64 num) ∧ w'.cell? ⟨w.heap.size, 1, none⟩ = some (.slice a xs.length cap))
        (first | go_keep | assumption | (go_split_ands; exact ⟨e0, e1, e2, e3⟩) | (go_split_ands; exact ⟨f0, f1, f2, f3⟩))
        ((first | (go_at_call 27; refine (toBase_calls num a cap xs _ l1 (by exact hx13)).mono ?_; rintro e w14 ⟨a14, cap14, rfl, ho14, hb14'⟩; have hb14 := drew_below hb14'; have s14 := s13.call hb14; have e0 := (hb14.cell (p := ⟨w7.heap.size, 0, none⟩) p0).trans k0; have e1 := (hb14.cell (p := ⟨w7.heap.size, 1, none⟩) p0).trans k1; have e2 := (hb14.cell (p := ⟨w.heap.size, 0, none⟩) p1).trans k2; have e3 := (hb14.cell (p := ⟨w.heap.size, 1, none⟩) p1).trans k3) | (go_at_call 29; refine (eqBase_eq _ _ _ _ _ _ _ l2 (by exact (own_intsR s14.drop.drop.drop.drop.own)) (by exact (own_intsR ho14))).mono ?_; rintro e w15 ⟨rfl, hb15⟩; have s15 := s14.call hb15; have z := hb14.size; have f0 := (hb15.cell (p := ⟨w7.heap.size, 0, none⟩) (Nat.lt_of_lt_of_le p0 z)).trans e0; have f1 := (hb15.cell (p := ⟨w7.heap.size, 1, none⟩) (Nat.lt_of_lt_of_le p0 z)).trans e1; have f2 := (hb15.cell (p := ⟨w.heap.size, 0, none⟩) (Nat.lt_of_lt_of_le p1 z)).trans e2; have f3 := (hb15.cell (p := ⟨w.heap.size, 1, none⟩) (Nat.lt_of_lt_of_le p1 z)).trans e3)))
      clear s13 s14 hb14 hb14' hb15 ho14 e0 e1 e2 e3 f0 f1 f2 f3 k0 k1 k2 k3 z hx13 p0 p1
      go_wp2_with fail
      refine (toUpdateS_calls b capb us _ m1 (hy.below s15.below)).mono ?_
      rintro e w16 ⟨a16, cap16, rfl, ho16, hb16⟩
      have s16 := s15.call hb16
      go_wp2_with fail
      refine (eqUpdateS_eq _ _ _ _ _ _ m2 (own_cellsR s16.drop.drop.own) (own_cellsR ho16)).mono ?_
      rintro e w17 ⟨rfl, hb17⟩
      have s19 := s16.call hb17
      clear s15 s16 hb16 hb17 ho16
      obtain ⟨d13, d10, d8, d3⟩ := eight s19
      go_wp2_with fail
      refine (markBase_st _ _ _ _ _ _ s19.at4 l1 (by omega) (by omega)).mono ?_
      rintro e w20 ⟨rfl, s20⟩
      have s20 := s20.to4
      clear s19 d13 d10 d8 d3
      go_wp2_with fail
      refine (markUpdateS_st _ _ _ _ _ s20.at2 m1 (by omega) (by omega)).mono ?_
      rintro e w22 ⟨rfl, s22⟩
      have s22 := s22.to2
      clear s20
      obtain ⟨d13, d10, d8, d3⟩ := eight s22
      have y1 : 0 ≤ 1 + (xs.length : Int) + 2 * (us.length : Int) := by omega
      have y1' : 0 ≤ 1 + (xs.length : Int) + (us.length : Int) * 2 := by omega
      go_wp2_with fail
      refine (eqBase_eq _ _ _ _ _ _ _ hyl3 (own_intsR s22.drop.own) (own_intsR s22.drop.drop.drop.drop.drop.drop.own)).mono ?_
      rintro e w23 ⟨rfl, hb23⟩
      have s23 := s22.call hb23
      clear s22 hb23 d13 d10 d8 d3
      obtain ⟨d13, d10, d8, d3⟩ := eight s23
      go_wp2_with fail
      refine (markBase_st _ _ _ _ _ _ s23.at1 hyl2 (by omega) (by omega)).mono ?_
      rintro e w24 ⟨rfl, s24⟩
      have s24 := s24.to1
      clear s23 d13 d10 d8 d3
      obtain ⟨d13, d10, d8, d3⟩ := eight s24
      have y2 : 0 ≤ 1 + (rs.length : Int) := by omega
      go_wp2_with fail
      refine (heldBase_calls _ _ _ _ _ _ (own_cellsR s24.drop.own) hyl2 (by omega) (by omega)).mono ?_
      rintro e w25 ⟨rfl, hb25⟩
      have s25 := s24.call hb25
      clear s24 hb25 d13 d10 d8 d3
      obtain ⟨d13, d10, d8, d3⟩ := eight s25
      go_wp2_with fail
      refine (toBase_calls num a cap xs _ l1 (hx.below s25.below)).mono ?_
      rintro e w26 ⟨a26, cap26, rfl, ho26, hb26⟩
      have s26 := s25.fresh hb26 ho26 (Nat.le_refl _)
      go_wp2_with fail
      refine (toUpdateS_calls b capb us _ m1 (hy.below s26.below)).mono ?_
      rintro e w27 ⟨a27, cap27, rfl, ho27, hb27⟩
      have s28 := s26.fresh hb27 ho27 (Nat.le_refl _)
      clear s25 s26 hb26 hb27 ho26 ho27 d13 d10 d8 d3
      go_wp2_with fail
      refine (IM.out a26 a27 cap26 cap27 _ (own_intsR s28.drop.own) (own_cellsR s28.own)).mono ?_
      rintro e w29 ⟨a29, cap29, rfl, ho29, hb29⟩
      have s29 := (s28.fresh hb29 ho29 (Nat.le_refl _)).under (fun h => h.drop.drop) (by simp)
      have s30 := s29.alloc (.cells #[.int .i64 nn, .slice a29 rs.length cap29] 29)
      obtain ⟨d13, d10, d8, d3⟩ := eight s29.drop
      have q8 := s29.drop.drop.drop.drop.drop.drop.lt.2
      clear s28 hb29 ho29
      go_wp2_with fail
      refine (eqBase_eq _ _ _ _ _ _ _ hyl3 (own_intsR s30.drop.own) (own_intsR s30.drop.drop.drop.drop.drop.drop.drop.drop.own)).mono ?_
      rintro e w31 ⟨rfl, hb31⟩
      have s31 := s30.drop.drop.call hb31
      clear s29 s30 hb31 d13 d10 d8 d3 q8
      obtain ⟨d13, d10, d8, d3⟩ := eight s31
      go_wp2_with fail
      refine (heldBase_calls _ _ _ _ _ _ (own_cellsR s31.drop.own) hyl2 (by omega) (by omega)).mono ?_
      rintro e w32 ⟨rfl, hb32⟩
      have s32 := s31.call hb32
      go_wp2_with fail
      go_ret
      exact ⟨rfl, s32.below⟩
    · go_enter Try.func10, Try.ntmps10
      go_wp2_with fail
      refine (szBase_yes num a xs.length cap 1048576 _ (by omega) (by omega)).mono ?_
      rintro e w1 ⟨rfl, hb1⟩
      have s1 := s0.call hb1
      go_wp2_with fail
      refine (szUpdateS_no b us.length capb _ _ (by omega) (by omega) (by omega) (by omega)).mono ?_
      rintro e w1' ⟨rfl, rfl⟩
      go_wp2_with fail
      go_ret
      exact ⟨rfl, s1.below⟩
  · go_enter Try.func10, Try.ntmps10
    go_wp2_with fail
    refine (szBase_no num a xs.length cap 1048576 _ (by omega) (by omega) (by omega) (by omega)).mono ?_
    rintro e w1 ⟨rfl, hb1⟩
    have s1 := s0.call hb1
    go_wp2_with fail
    go_ret
    exact ⟨rfl, s1.below⟩

end Go.Proofs.Ytgdbphgcpcihcaa.fnExactBaseRun
