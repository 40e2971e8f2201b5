/-
  The walk of FnExactViewNext.
-/
import Derived.Test.YtkbckgnkbnakkaaV5
import Derived.Test.YtkbckgnkbnakkaaE2
import Derived.Test.YtkbckgnkbnakkaaPN
import Derived.Test.YtkbckgnkbnakkaaOp2
import Derived.Deep.RegionHeld3
namespace Go.Proofs.Ytkbckgnkbnakkaa.fnExactViewNext
open Go.RowKit Go.Proofs.Ytkbckgnkbnakkaa

theorem eqIntS_eq (a a' : Option Addr) (cap cap' : Nat) (xs : List Int) (w : World) (hm : xs.length ≤ 1099511627776) (hx : IntsAt w a xs) (hy : IntsAt w a' xs) :
    Calls Try.prog 31 #[.slice a xs.length cap, .slice a' xs.length cap'] w fun e w' => e = .returned (.bool true) ∧ Below w.heap.size w w' := by
  have := eqIntS_calls a a' cap cap' xs xs w hm hm hx hy
  rw [decide_eq_true rfl] at this
  exact this
theorem nextLen5 (num : Int) (xs failed fresh : List Int) : (nextIds num xs failed fresh).length ≤ 5 := by
  cases h : nextOk num xs failed fresh with
  | false => rw [(nextIds_bad h).1]; simp
  | true =>
    obtain ⟨_, e, _, h2⟩ := nextGood num xs failed fresh h
    rw [e]
    exact (viewOk_ids h2).2.2.1

theorem nine {w0 w : World} {b13 b10 b8 b3 : Nat} {c13 c10 c8 c3 : Array Value} {t t' : TypeId} {G X2 X1 X0 R8 : Res} (s : St w0 w [box b13 c13 t, G, X2, X1, box b10 c10 t, X0, box b8 c8 t, R8, box b3 c3 t']) :
    (∀ o, w.cell? ⟨b13, o, none⟩ = c13[o]?) ∧ (∀ o, w.cell? ⟨b10, o, none⟩ = c10[o]?) ∧ (∀ o, w.cell? ⟨b8, o, none⟩ = c8[o]?) ∧ (∀ o, w.cell? ⟨b3, o, none⟩ = c3[o]?) :=
  ⟨s.cells.1, s.drop.drop.drop.drop.cells.1, s.drop.drop.drop.drop.drop.drop.cells.1, s.drop.drop.drop.drop.drop.drop.drop.drop.cells.1⟩

set_option maxHeartbeats 4000000 in
theorem walk (v0 v1 v2 : Value) (w : World) (h0 : IsViewV w v0) (h1 : IsIntsV w v1) (h2 : IsIntsV w v2) :
    Calls Try.prog 13 #[v0, v1, v2] w fun e w' => e = .returned (.bool true) ∧ Below w.heap.size w w' := by
  obtain ⟨num, u, rfl, hfit, a, cap, xs, rfl, hc, hm, hx⟩ := h0
  obtain ⟨b, capb, ys, rfl, hcb, hmb, hy⟩ := h1
  obtain ⟨c, capc, zs, rfl, hcc, hmc, hz⟩ := h2
  clear hfit
  unfold maxLen at hm hmb hmc
  have s0 := (St.start w).alloc (.cells #[.int .i64 num, .slice a xs.length cap] 29)
  by_cases hly : ys.length ≤ 1048576
  · by_cases hlz : zs.length ≤ 1048576
    · by_cases hl : xs.length ≤ 1048576
      · have l1 : xs.length ≤ 2097152 := by omega
        have l2 : xs.length ≤ 1099511627776 := by omega
        have m1 : ys.length ≤ 2097152 := by omega
        have m2 : ys.length ≤ 1099511627776 := by omega
        have n1 : zs.length ≤ 2097152 := by omega
        have n2 : zs.length ≤ 1099511627776 := by omega
        have z1 : 0 ≤ (1048576 : Int) - (xs.length : Int) := by omega
        have hyl := nextLen5 num xs ys zs
        have SP := Lib.hid (fun A A1 A2 C C1 C2 W (h : IntsAt W A xs) (h1 : IntsAt W A1 ys) (h2 : IntsAt W A2 zs) => specViewNext_calls A A1 A2 C C1 C2 num xs ys zs W l2 m2 (by omega) h h1 h2)
        have IM := Lib.hid (fun A A1 A2 C C1 C2 W (h : IntsAt W A xs) (h1 : IntsAt W A1 ys) (h2 : IntsAt W A2 zs) => viewNext_calls A A1 A2 C C1 C2 num xs ys zs W l2 m2 n2 h h1 h2)
        unfold Nexted at SP IM
        generalize nextNum num xs ys zs = nn at *
        generalize nextIds num xs ys zs = rs at *
        generalize nextOk num xs ys zs = ok at *
        have hyl2 : rs.length ≤ 2097152 := by omega
        have hyl3 : rs.length ≤ 1099511627776 := by omega
        go_enter Try.func13, Try.ntmps13
        go_wp2_with fail
        refine (szView_yes num a xs.length cap 1048576 _ (by omega) (by omega)).mono ?_
        rintro e w1 ⟨rfl, hb1⟩
        have s1 := s0.call hb1
        obtain ⟨c1, _⟩ := s1.cells
        clear s0 hb1
        go_wp2_with fail
        refine (toView_calls num a cap xs _ l1 (hx.below s1.below)).mono ?_
        rintro e w2 ⟨a2, cap2, rfl, ho2, hb2⟩
        have s2 := s1.fresh hb2 ho2 (Nat.le_refl _)
        go_wp2_with fail
        refine (toIntS_calls b capb ys _ m1 (hy.below s2.below)).mono ?_
        rintro e w3 ⟨a3, cap3, rfl, ho3, hb3⟩
        have s3 := s2.fresh hb3 ho3 (Nat.le_refl _)
        go_wp2_with fail
        refine (toIntS_calls c capc zs _ n1 (hz.below s3.below)).mono ?_
        rintro e w4 ⟨a4, cap4, rfl, ho4, hb4⟩
        have s4 := s3.fresh hb4 ho4 (Nat.le_refl _)
        clear s1 s2 s3 hb2 hb3 hb4 ho2 ho3 ho4 c1
        go_wp2_with fail
        refine (SP.out a2 a3 a4 cap2 cap3 cap4 _ (own_intsR s4.at2.own) (own_intsR s4.at1.own) (own_intsR s4.own)).mono ?_
        rintro e w5 ⟨a8, cap8, rfl, ho5, hb5⟩
        have s5 := (s4.fresh hb5 ho5 (Nat.le_refl _)).under (fun h => h.drop.drop.drop) (by simp)
        clear s4 ho5 hb5
        have s6 := s5.alloc (.cells #[.int .i64 nn, .slice a8 rs.length cap8] 25)
        obtain ⟨c3, _⟩ := s5.drop.cells
        have q3 := s5.drop.lt.2
        go_wp2_with fail
        refine (toView_calls num a cap xs _ l1 (hx.below s6.below)).mono ?_
        rintro e w7 ⟨a10, cap10, rfl, ho7, hb7⟩
        have s7 := (s6.fresh hb7 ho7 (Nat.le_refl _))
        have s8 := s7.alloc (.cells #[.int .i64 num, .slice a10 xs.length cap10] 25)
        clear s5 s6 ho7 hb7 c3 q3
        go_wp2_with fail
        refine (toIntS_calls b capb ys _ m1 (hy.below s8.below)).mono ?_
        rintro e w9 ⟨a11, cap11, rfl, ho9, hb9⟩
        have s9 := s8.fresh hb9 ho9 (Nat.le_refl _)
        go_wp2_with fail
        refine (toIntS_calls c capc zs _ n1 (hz.below s9.below)).mono ?_
        rintro e w10 ⟨a12, cap12, rfl, ho10, hb10⟩
        have s10 := s9.fresh hb10 ho10 (Nat.le_refl _)
        clear s7 s8 s9 ho9 hb9 ho10 hb10
        obtain ⟨c10, _⟩ := s10.drop.drop.cells
        go_wp2_with fail
        refine (IM.out a10 a11 a12 cap10 cap11 cap12 _ (own_intsR s10.drop.drop.drop.own) (own_intsR s10.at1.own) (own_intsR s10.own)).mono ?_
        rintro e w11 ⟨a13, cap13, rfl, ho11, hb11⟩
        have s11 := s10.fresh hb11 ho11 (Nat.le_refl _)
        have s12 := s11.alloc (.cells #[.int .i64 nn, .slice a13 rs.length cap13] 25)
        obtain ⟨c8, _⟩ := s11.drop.drop.drop.drop.drop.cells
        have q8 := s11.drop.drop.drop.drop.drop.lt.2
        clear s10 ho11 hb11 c10
        go_wp2_with fail
        refine (eqView_eq _ _ _ _ _ _ _ hyl3 (own_intsR s12.drop.own) (own_intsR s12.drop.drop.drop.drop.drop.drop.drop.own)).mono ?_
        rintro e w13 ⟨rfl, hb13⟩
        have s13 := s12.call hb13
        obtain ⟨d13, d10, d8, d3⟩ := nine s13
        clear s11 s12 hb13 c8 q8
        go_wp2_with fail
        have hx13 := hx.below s13.below
        have k0 := d10 0
        have k1 := d10 1
        have k2 := d3 0
        have k3 := d3 1
        simp at k0 k1 k2 k3
        have p0 := s13.drop.drop.drop.drop.lt.2
        have p1 := s13.drop.drop.drop.drop.drop.drop.drop.drop.lt.2
        clear d13 d10 d8 d3
        go_region_held3 (fun w' => w'.cell? ⟨w7.heap.size, 0, none⟩ = some (.int .i64 num) ∧ w'.cell? ⟨w7.heap.size, 1, none⟩ = some (.slice a10 xs.length cap10) ∧ w'.cell? ⟨w.heap.size, 0, none⟩ = some (.int .i64 num) ∧ w'.cell? ⟨w.heap.size, 1, none⟩ = some (.slice a xs.length cap))
          (first | go_keep | assumption | (go_split_ands; exact ⟨e0, e1, e2, e3⟩) | (go_split_ands; exact ⟨f0, f1, f2, f3⟩))
          ((first | (go_at_call 19; refine (toView_calls num a cap xs _ l1 (by exact hx13)).mono ?_; rintro e w14 ⟨a14, cap14, rfl, ho14, hb14'⟩; have hb14 := drew_below hb14'; have s14 := s13.call hb14; have e0 := (hb14.cell (p := ⟨w7.heap.size, 0, none⟩) p0).trans k0; have e1 := (hb14.cell (p := ⟨w7.heap.size, 1, none⟩) p0).trans k1; have e2 := (hb14.cell (p := ⟨w.heap.size, 0, none⟩) p1).trans k2; have e3 := (hb14.cell (p := ⟨w.heap.size, 1, none⟩) p1).trans k3) | (go_at_call 20; refine (eqView_eq _ _ _ _ _ _ _ l2 (by exact (own_intsR s14.drop.drop.drop.drop.drop.own)) (by exact (own_intsR ho14))).mono ?_; rintro e w15 ⟨rfl, hb15⟩; have s15 := s14.call hb15; have z := hb14.size; have f0 := (hb15.cell (p := ⟨w7.heap.size, 0, none⟩) (Nat.lt_of_lt_of_le p0 z)).trans e0; have f1 := (hb15.cell (p := ⟨w7.heap.size, 1, none⟩) (Nat.lt_of_lt_of_le p0 z)).trans e1; have f2 := (hb15.cell (p := ⟨w.heap.size, 0, none⟩) (Nat.lt_of_lt_of_le p1 z)).trans e2; have f3 := (hb15.cell (p := ⟨w.heap.size, 1, none⟩) (Nat.lt_of_lt_of_le p1 z)).trans e3)))
        clear s13 s14 hb14 hb14' hb15 ho14 e0 e1 e2 e3 f0 f1 f2 f3 k0 k1 k2 k3 z hx13 p0 p1
        go_wp2_with fail
        refine (toIntS_calls b capb ys _ m1 (hy.below s15.below)).mono ?_
        rintro e w16 ⟨a16, cap16, rfl, ho16, hb16⟩
        have s16 := s15.call hb16
        go_wp2_with fail
        refine (eqIntS_eq _ _ _ _ _ _ m2 (own_intsR s16.drop.drop.drop.own) (own_intsR ho16)).mono ?_
        rintro e w17 ⟨rfl, hb17⟩
        have s17 := s16.call hb17
        clear s15 s16 hb16 hb17 ho16
        go_wp2_with fail
        refine (toIntS_calls c capc zs _ n1 (hz.below s17.below)).mono ?_
        rintro e w18 ⟨a18, cap18, rfl, ho18, hb18⟩
        have s18 := s17.call hb18
        go_wp2_with fail
        refine (eqIntS_eq _ _ _ _ _ _ n2 (own_intsR s18.drop.drop.own) (own_intsR ho18)).mono ?_
        rintro e w19 ⟨rfl, hb19⟩
        have s19 := s18.call hb19
        clear s17 s18 hb18 hb19 ho18
        obtain ⟨d13, d10, d8, d3⟩ := nine s19
        go_wp2_with fail
        refine (markView_st _ _ _ _ _ _ s19.at5 l1 (by omega) (by omega)).mono ?_
        rintro e w20 ⟨rfl, s20⟩
        have s20 := s20.to5
        clear s19 d13 d10 d8 d3
        go_wp2_with fail
        refine (markIntS_st _ _ _ _ _ s20.at3 m1 (by omega) (by omega)).mono ?_
        rintro e w21 ⟨rfl, s21⟩
        have s21 := s21.to3
        clear s20
        go_wp2_with fail
        refine (markIntS_st _ _ _ _ _ s21.at2 n1 (by omega) (by omega)).mono ?_
        rintro e w22 ⟨rfl, s22⟩
        have s22 := s22.to2
        clear s21
        obtain ⟨d13, d10, d8, d3⟩ := nine s22
        have y1 : 0 ≤ 1 + (xs.length : Int) + (ys.length : Int) + (zs.length : Int) := by omega
        go_wp2_with fail
        refine (eqView_eq _ _ _ _ _ _ _ hyl3 (own_intsR s22.drop.own) (own_intsR s22.drop.drop.drop.drop.drop.drop.drop.own)).mono ?_
        rintro e w23 ⟨rfl, hb23⟩
        have s23 := s22.call hb23
        clear s22 hb23 d13 d10 d8 d3
        obtain ⟨d13, d10, d8, d3⟩ := nine s23
        go_wp2_with fail
        refine (markView_st _ _ _ _ _ _ s23.at1 hyl2 (by omega) (by omega)).mono ?_
        rintro e w24 ⟨rfl, s24⟩
        have s24 := s24.to1
        clear s23 d13 d10 d8 d3
        obtain ⟨d13, d10, d8, d3⟩ := nine s24
        have y2 : 0 ≤ 1 + (rs.length : Int) := by omega
        go_wp2_with fail
        refine (heldView_calls _ _ _ _ _ _ (own_cellsR s24.drop.own) hyl2 (by omega) (by omega)).mono ?_
        rintro e w25 ⟨rfl, hb25⟩
        have s25 := s24.call hb25
        clear s24 hb25 d13 d10 d8 d3
        obtain ⟨d13, d10, d8, d3⟩ := nine s25
        go_wp2_with fail
        refine (toView_calls num a cap xs _ l1 (hx.below s25.below)).mono ?_
        rintro e w26 ⟨a26, cap26, rfl, ho26, hb26⟩
        have s26 := s25.fresh hb26 ho26 (Nat.le_refl _)
        go_wp2_with fail
        refine (toIntS_calls b capb ys _ m1 (hy.below s26.below)).mono ?_
        rintro e w27 ⟨a27, cap27, rfl, ho27, hb27⟩
        have s27 := s26.fresh hb27 ho27 (Nat.le_refl _)
        go_wp2_with fail
        refine (toIntS_calls c capc zs _ n1 (hz.below s27.below)).mono ?_
        rintro e w28 ⟨a28, cap28, rfl, ho28, hb28⟩
        have s28 := s27.fresh hb28 ho28 (Nat.le_refl _)
        clear s25 s26 s27 hb26 hb27 hb28 ho26 ho27 ho28 d13 d10 d8 d3
        go_wp2_with fail
        refine (IM.out a26 a27 a28 cap26 cap27 cap28 _ (own_intsR s28.drop.drop.own) (own_intsR s28.drop.own) (own_intsR s28.own)).mono ?_
        rintro e w29 ⟨a29, cap29, rfl, ho29, hb29⟩
        have s29 := (s28.fresh hb29 ho29 (Nat.le_refl _)).under (fun h => h.drop.drop.drop) (by simp)
        have s30 := s29.alloc (.cells #[.int .i64 nn, .slice a29 rs.length cap29] 25)
        obtain ⟨d13, d10, d8, d3⟩ := nine s29.drop
        have q8 := s29.drop.drop.drop.drop.drop.drop.drop.lt.2
        clear s28 hb29 ho29
        go_wp2_with fail
        refine (eqView_eq _ _ _ _ _ _ _ hyl3 (own_intsR s30.drop.own) (own_intsR s30.drop.drop.drop.drop.drop.drop.drop.drop.drop.own)).mono ?_
        rintro e w31 ⟨rfl, hb31⟩
        have s31 := s30.drop.drop.call hb31
        clear s29 s30 hb31 d13 d10 d8 d3 q8
        obtain ⟨d13, d10, d8, d3⟩ := nine s31
        go_wp2_with fail
        refine (heldView_calls _ _ _ _ _ _ (own_cellsR s31.drop.own) hyl2 (by omega) (by omega)).mono ?_
        rintro e w32 ⟨rfl, hb32⟩
        have s32 := s31.call hb32
        go_wp2_with fail
        go_ret
        exact ⟨rfl, s32.below⟩
      · go_enter Try.func13, Try.ntmps13
        go_wp2_with fail
        refine (szView_no num a xs.length cap 1048576 _ (by omega) (by omega) (by omega) (by omega)).mono ?_
        rintro e w1 ⟨rfl, hb1⟩
        have s1 := s0.call hb1
        go_wp2_with fail
        go_ret
        exact ⟨rfl, s1.below⟩
    · go_enter Try.func13, Try.ntmps13
      go_wp2_with fail
      go_ret
      exact ⟨rfl, s0.below⟩
  · go_enter Try.func13, Try.ntmps13
    go_wp2_with fail
    go_ret
    exact ⟨rfl, s0.below⟩

end Go.Proofs.Ytkbckgnkbnakkaa.fnExactViewNext
