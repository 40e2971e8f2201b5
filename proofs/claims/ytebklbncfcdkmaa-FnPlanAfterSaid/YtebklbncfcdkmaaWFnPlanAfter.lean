
/-
  The walk of FnPlanAfter.
-/
import Derived.Test.YtebklbncfcdkmaaX23
import Derived.Test.YtebklbncfcdkmaaX19
import Derived.Test.YtebklbncfcdkmaaX11
import Derived.Test.YtebklbncfcdkmaaHa
namespace Go.Proofs.Ytebklbncfcdkmaa.fnPlanAfter
open Go.RowKit Go.Proofs.Ytebklbncfcdkmaa

set_option maxRecDepth 100000 in
set_option maxHeartbeats 4000000 in
theorem walk (a0 : Option Addr) (len0 cap0 : Nat) (z0 : List Int) (b0 : Option Addr) (len1 cap1 : Nat) (z1 : List Int) (w : World) (w0 : IsRow .u8 w a0 len0 cap0 z0) (w1 : IsRow .u8 w b0 len1 cap1 z1) :
    Calls Try.prog 3 #[.slice a0 len0 cap0, .slice b0 len1 cap1] w fun e w' => e = .returned (.bool true) ∧ Below w.heap.size w w' := by
  have hle := w0.le
  have hby := w0.bytes
  have hle1 := w1.le
  clear w0 w1
  have mle : maxLen ≤ 9223372036854775807 := by unfold maxLen; omega
  by_cases hbig : len0 ≤ 1048576 ∧ len1 ≤ 1048576
  · obtain ⟨hbig, hbig1⟩ := hbig
    go_enter Try.func3, Try.ntmps3
    go_wp2_with fail
    with_reducible refine (drawPlanOf_calls _ _ _ _ hle.1 hle.2 hby).mono ?_
    rintro e w1 ⟨a1, a2, a3, c1, c2, c3, ps, ss, ds, m, rfl, hp6, hs8, hd8, hm1, hm3, s1⟩
    go_wp2_with fail
    with_reducible refine (planOf_calls a1 c1 ps a2 c2 ss a3 c3 ds m w1 (by omega) (by omega) (by omega) (own_intsR s1.own) (own_intsR s1.at1.own) (own_intsR s1.at2.own)).mono ?_
    rintro e w2 ⟨b2, e2, rfl, o2, hb2⟩
    have s2 := (s1.fresh hb2 o2 (Nat.le_refl _)).to3
    clear s1 o2 hb2
    go_wp2_with fail
    with_reducible refine (specPlanOf_calls a1 c1 ps a2 c2 ss a3 c3 ds m w2 (by omega) (by omega) (by omega) (own_intsR s2.own) (own_intsR s2.at1.own) (own_intsR s2.at2.own)).mono ?_
    rintro e w3 ⟨b3, e3, rfl, o3, hb3⟩
    have s3 := s2.fresh hb3 o3 (Nat.le_refl _)
    have hlr : (planR ps ss ds m).length ≤ 48 := by
      unfold planR
      split
      · have := planL_len ss ds m ps
        omega
      · simp
    have I2 := own_cellsR s3.at4.own
    have I3 := own_cellsR s3.own
    have J1 := own_intsR s3.at1.own
    have J2 := own_intsR s3.at2.own
    have J3 := own_intsR s3.at3.own
    have SA := Lib.hid (fun W (hb : Below w3.heap.size w3 W) => sameMoves_eq b2 b3 e2 e3 (planR ps ss ds m) W (by omega) (I2.below hb) (I3.below hb))
    have B3 := s3.below
    clear s2 s3 o3 hb3 I3
    cases hok : planOk ps ss ds m with
    | false =>
      generalize (planR ps ss ds m).length = R at *
      go_wp2_with fail
      with_reducible refine (SA.out _ (Below.refl _ _)).mono ?_
      rintro e w4 ⟨rfl, hb4⟩
      go_wp2_with fail
      with_reducible refine (SA.out _ hb4).mono ?_
      rintro e w5 ⟨rfl, hb5⟩
      have FIN2 := Lib.hid ((B3.trans (hb4.mono B3.size)).trans (hb5.mono (Nat.le_trans B3.size hb4.size)))
      clear hb4 hb5
      go_wp2_with fail
      go_ret
      exact ⟨rfl, FIN2.out⟩
    | true =>
      have PR : planR ps ss ds m = planL ps ss ds m := by rw [planR, hok]; rfl
      rw [PR] at SA hlr I2
      rw [PR]
      clear PR
      by_cases hps0 : ps.length = 0
      · generalize planL ps ss ds m = R at *
        have hz : ((ps.length : Int) == 0) = true := by simp [hps0]
        go_wp2_with fail
        with_reducible refine (SA.out _ (Below.refl _ _)).mono ?_
        rintro e w4 ⟨rfl, hb4⟩
        go_wp2_with fail
        with_reducible refine (SA.out _ hb4).mono ?_
        rintro e w5 ⟨rfl, hb5⟩
        have FIN2 := Lib.hid ((B3.trans (hb4.mono B3.size)).trans (hb5.mono (Nat.le_trans B3.size hb4.size)))
        clear hb4 hb5
        go_wp2_with fail
        go_ret
        exact ⟨rfl, FIN2.out⟩
      · have hp0 : 0 < ps.length := by omega
        have hz : ((ps.length : Int) == 0) = false := by simp; intro e; rw [e] at hps0; exact hps0 rfl
        obtain ⟨kk, e1, e2, hkk⟩ : ∃ k : Nat, (len1 : Int) % (ps.length : Int) = k ∧ (len1 : Int).tmod (ps.length : Int) = k ∧ k < ps.length := ⟨len1 % ps.length, by omega, by rw [Int.tmod_eq_emod_of_nonneg (by omega)]; omega, Nat.mod_lt _ hp0⟩
        have PM := Lib.hid (fun hl => plan_after hok (List.getElem_mem hkk) hl)
        have PF := Lib.hid (plan_fresh hok (List.getElem_mem hkk))
        have hpz : (ps.length : Int) ≠ 0 := by omega
        generalize planL ps ss ds m = R at *
        clear hps0
        go_wp2_with fail
        with_reducible refine (SA.out _ (Below.refl _ _)).mono ?_
        rintro e w4 ⟨rfl, hb4⟩
        clear SA
        rcases J1.below hb4 with h0 | ⟨bp, off, rfl, hc⟩
        · rw [h0] at hp0; simp at hp0
        have hcell : w4.cell? ⟨bp, off + kk, none⟩ = some (.int .i64 ps[kk]) := by
          have := hc kk hkk
          simpa [hkk] using this
        have i1 : (0 : Int) ≤ (kk : Int) := by omega
        have i2 : (kk : Int) < (ps.length : Int) := by omega
        clear hc
        generalize ps[kk] = x at *
        have s4 := ((St.start w4).alloc (.cells #[] 3)).madeRow 1 0 rfl (by simp [maxLen]) 0 (Nat.le_refl _)
        simp only [List.take_nil] at s4
        go_wp2_with fail
        clear hcell e1 e2
        generalize hw5 : w4.alloc (.cells #[] 3 (0, 0)) = w5 at *
        generalize w4.heap.size = B4 at s4
        clear hw5
        go_loopw [14, 15] (fun v i wr => ∃ (k : Nat), k ≤ ss.length ∧ i = .int .i64 k ∧ St w4 wr [row v 3 1 (goneP (ss.take k) ds).length ((goneP (ss.take k) ds).map (Value.int .i64))]) (fun _ i _ => ss.length - (intOf i).toNat)
        case atStart => exact ⟨0, Nat.zero_le _, rfl, s4⟩
        case round =>
          clear s4
          obtain ⟨k, hk, rfl, s2⟩ := hrel
          have hb5 := hb4.trans (s2.below.mono hb4.size)
          by_cases hlt : k < ss.length
          · rcases J2.below hb5 with rfl | ⟨bk, off, rfl, hc⟩
            · simp at hlt
            have hcell : wr.cell? ⟨bk, off + k, none⟩ = some (.int .i64 ss[k]) := by
              have := hc k hlt
              simpa [hlt] using this
            have i1 : (0 : Int) ≤ (k : Int) := by omega
            have i2 : (k : Int) < (ss.length : Int) := by omega
            have TS := Lib.hid (take_snocI hlt)
            have hgl : (goneP (ss.take k) ds).length ≤ 100 := by
              have := goneP_len (ss.take k) ds
              simp at this; omega
            have HA1 := hasInt_calls a3 c3 ds ss[k] wr (by omega) (J3.below hb5)
            clear hc
            generalize ss[k] = y at *
            by_cases hin : y ∈ ds
            · rw [decide_eq_true hin] at HA1
              have HA := Lib.hid HA1
              have GO := Lib.hid (show goneP (ss.take (k + 1)) ds = goneP (ss.take k) ds by rw [TS.out, goneP_snoc_in hin])
              clear hin HA1
              go_wp2_with fail
              with_reducible refine HA.out.mono ?_
              rintro e w' ⟨rfl, rfl⟩
              go_wp2_with fail
              go_roundw
              case rel => exact ⟨k + 1, hlt, by go_num, by rw [GO.out]; exact s2⟩
              case measure => simp [intOf]; omega
            · rw [decide_eq_false hin] at HA1
              have HA := Lib.hid HA1
              have GO := Lib.hid (show goneP (ss.take (k + 1)) ds = goneP (ss.take k) ds ++ [y] by rw [TS.out, goneP_snoc_out hin])
              clear hin HA1
              generalize goneP (ss.take k) ds = zs at *
              have o3 := s2.own
              have lR := s2.size
              go_wp2_with fail
              with_reducible refine HA.out.mono ?_
              rintro e w' ⟨rfl, rfl⟩
              go_wp2_with ((at_builtin; refine list_app elem_int (by rfl) _ _ (by rfl) w4.heap.size u14 zs.length (zs.map (Value.int .i64)) (by rfl) wr.heap.size 1 1 (by rfl) #[.int .i64 y] 3 (0, 0) (by rfl) (by simp [Value.oneCell']) (by omega) (by omega) (by omega) (heap_alloc_new wr _) (o3.alloc _) (by simp; omega) ?_); intro gg cap3 w7 hown hgrow hat hl)
              have s7 := s2.app (World.grownBy_alloc wr _ none) hown hgrow hat hl
              clear hown hgrow hat hl s2 o3
              go_wp2_with fail
              go_roundw
              case rel => exact ⟨k + 1, hlt, by go_num, by rw [GO.out]; simpa using s7⟩
              case measure => simp [intOf]; omega
          · rw [List.take_of_length_le (by omega)] at s2
            obtain ⟨va, vc, rfl, _⟩ := s2.ints
            have Ia := own_intsR s2.own
            have hal : (goneP ss ds).length ≤ 8 := Nat.le_trans (goneP_len _ _) hs8
            clear s2
            go_wp2_with fail
            with_reducible refine (placeOf_calls x a2 c2 ss m wr (by omega) (J2.below hb5)).mono ?_
            rintro e w6 ⟨oa, oc, rfl, o6, hb6⟩
            have I6 := own_intsR o6
            have hb7 := hb5.trans (hb6.mono hb5.size)
            go_wp2_with fail
            with_reducible refine (placeOf_calls x va vc (goneP ss ds) m w6 (by omega) (Ia.below hb6)).mono ?_
            rw [PF.out]
            rintro e w7 ⟨fa, fc, rfl, o7, hb8⟩
            have I7 := own_intsR o7
            have hb9 := hb7.trans (hb8.mono hb7.size)
            clear o6 Ia
            go_wp2_with fail
            with_reducible refine (planLost_calls _ c1 ps a2 c2 ss a3 c3 ds m w7 (by omega) (by omega) (by omega) (J1.below hb9) (J2.below hb9) (J3.below hb9)).mono ?_
            rw [hok, show lostR ps ss ds m = lostL ps ss ds m by rw [lostR, hok]; rfl]
            rintro e w8 ⟨qa, qc, rfl, o8, hb10⟩
            have hb11 := hb9.trans (hb10.mono hb9.size)
            have hll := lostL_len ps ss ds m
            have HL := hasInt_calls qa qc (lostL ps ss ds m) x w8 (by omega) (own_intsR o8)
            have hol := placeR_len x ss m
            have hfl := placeR_len x (goneP ss ds) m
            have I6' := (I6.below hb8).below hb10
            have I7' := I7.below hb10
            have FINB := Lib.hid (B3.trans (hb11.mono B3.size))
            by_cases hin : x ∈ lostL ps ss ds m
            · rw [decide_eq_true hin] at HL
              have HL2 := Lib.hid HL
              clear HL hin o8
              generalize (lostL ps ss ds m).length = ll at *
              go_wp2_with fail
              with_reducible refine HL2.out.mono ?_
              rintro e w' ⟨rfl, rfl⟩
              go_wp2_with fail
              go_ret
              exact ⟨rfl, FINB.out⟩
            · rw [decide_eq_false hin] at HL
              have HL2 := Lib.hid HL
              have ALL := Lib.hid (PM.out hin)
              clear HL hin o8 PM I6 I7 o7
              have I2' := I2.below hb11
              clear I2
              generalize (lostL ps ss ds m).length = ll at *
              generalize placeR x ss m = old at *
              generalize placeR x (goneP ss ds) m = fresh at *
              go_wp2_with fail
              with_reducible refine HL2.out.mono ?_
              rintro e w' ⟨rfl, rfl⟩
              go_wp2_with fail
              go_loopw [22] (fun i wr => ∃ (k n : Nat), k ≤ fresh.length ∧ i = .int .i64 k ∧ wr = w8.drewN n) (fun i _ => fresh.length - (intOf i).toNat)
              case atStart => exact ⟨0, 0, Nat.zero_le _, rfl, rfl⟩
              case round =>
                obtain ⟨k, n, hk, rfl, rfl⟩ := hrel
                by_cases hlt : k < fresh.length
                · obtain ⟨fg, foff, rfl, hc⟩ : ∃ b off, fa = some ⟨b, off, none⟩ ∧ w8.cell? ⟨b, off + k, none⟩ = some (.int .i64 fresh[k]) := by
                    rcases I7' with h | ⟨b, off, rfl, hc⟩
                    · rw [h] at hlt; simp at hlt
                    · refine ⟨b, off, rfl, ?_⟩
                      have := hc k hlt
                      simpa [hlt] using this
                  have i1 : (0 : Int) ≤ (k : Int) := by omega
                  have i2 : (k : Int) < (fresh.length : Int) := by omega
                  have AF := Lib.hid (ALL.out fresh[k] (List.getElem_mem hlt))
                  have HO := Lib.hid (hasInt_calls oa oc old fresh[k] (w8.drewN n) (by omega) (I6'.below (below_drewN (Below.refl _ _) _)))
                  generalize fresh[k] = t at *
                  go_wp2_with fail
                  with_reducible refine HO.out.mono ?_
                  rintro e w' ⟨rfl, rfl⟩
                  have O0 := Lib.hid (show (decide (t ∈ old) || anyMv (R.take 0) x t) = decide (t ∈ old) by simp [anyMv])
                  generalize decide (t ∈ old) = c0 at *
                  go_wp2_with fail
                  go_loopw [23, 24] (fun s i wr => ∃ (j n : Nat), j ≤ R.length ∧ i = .int .i64 j ∧ s = .bool (c0 || anyMv (R.take j) x t) ∧ wr = w8.drewN n) (fun _ i _ => R.length - (intOf i).toNat)
                  case atStart => exact ⟨0, n, Nat.zero_le _, rfl, by rw [O0.out], rfl⟩
                  case round =>
                    obtain ⟨j, n2, hj, rfl, rfl, rfl⟩ := hrel
                    by_cases hlt2 : j < R.length
                    · obtain ⟨rb, roff, rfl, d0, d1, d2⟩ := I2'.move j hlt2
                      have j1 : (0 : Int) ≤ (j : Int) := by omega
                      have j2 : (j : Int) < (R.length : Int) := by omega
                      have SN := anyMv_snoc (R.take j) R[j] x t
                      rw [← show R.take (j + 1) = R.take j ++ [R[j]] by rw [List.take_add_one, List.getElem?_eq_getElem hlt2]; rfl] at SN
                      have SNH := Lib.hid SN
                      clear SN
                      generalize R[j] = v at *
                      have SN2 := Lib.hid (show (c0 || anyMv (R.take (j + 1)) x t) = ((c0 || anyMv (R.take j) x t) || (decide (v.1 = x) && decide (v.2.2 = t))) by rw [SNH.out, Bool.or_assoc])
                      generalize (c0 || anyMv (R.take j) x t) = cur at *
                      cases cur with
                      | true =>
                        go_wp2_with fail
                        go_quiet (fail)
                        go_wp2_with fail
                        go_roundw
                        case rel => exact ⟨j + 1, _, hlt2, by go_num, by rw [SN2.out, Bool.true_or], rfl⟩
                        case measure => simp [intOf]; omega
                      | false =>
                        by_cases hv : v.1 = x
                        · have hv1 : (v.1 == x) = true := by simpa using hv
                          by_cases ht : v.2.2 = t
                          · have ht1 : (v.2.2 == t) = true := by simpa using ht
                            have DD := Lib.hid (show (decide (v.1 = x) && decide (v.2.2 = t)) = true by simp [hv, ht])
                            clear hv ht
                            go_wp2_with fail
                            go_quiet (fail)
                            go_wp2_with fail
                            go_roundw
                            case rel => exact ⟨j + 1, _, hlt2, by go_num, by rw [SN2.out, DD.out, Bool.false_or], rfl⟩
                            case measure => simp [intOf]; omega
                          · have ht1 : (v.2.2 == t) = false := by simpa using ht
                            have DD := Lib.hid (show (decide (v.1 = x) && decide (v.2.2 = t)) = false by simp [ht])
                            clear hv ht
                            go_wp2_with fail
                            go_quiet (fail)
                            go_wp2_with fail
                            go_roundw
                            case rel => exact ⟨j + 1, _, hlt2, by go_num, by rw [SN2.out, DD.out, Bool.false_or], rfl⟩
                            case measure => simp [intOf]; omega
                        · have hv1 : (v.1 == x) = false := by simpa using hv
                          have DD := Lib.hid (show (decide (v.1 = x) && decide (v.2.2 = t)) = false by simp [hv])
                          clear hv
                          go_wp2_with fail
                          go_quiet (fail)
                          go_wp2_with fail
                          go_roundw
                          case rel => exact ⟨j + 1, _, hlt2, by go_num, by rw [SN2.out, DD.out, Bool.false_or], rfl⟩
                          case measure => simp [intOf]; omega
                    · rw [List.take_of_length_le (by omega), AF.out]
                      go_wp2_with fail
                      go_roundw
                      case rel => exact ⟨k + 1, n2, hlt, by go_num, rfl⟩
                      case measure => simp [intOf]; omega
                · go_wp2_with fail
                  go_ret
                  exact ⟨rfl, below_drewN FINB.out _⟩
  · by_cases h0 : 1048576 < len0
    · go_enter Try.func3, Try.ntmps3
      go_wp2_with fail
      go_ret
      exact ⟨rfl, Below.refl _ _⟩
    · have h1 : 1048576 < len1 := by omega
      go_enter Try.func3, Try.ntmps3
      go_wp2_with fail
      go_ret
      exact ⟨rfl, Below.refl _ _⟩

end Go.Proofs.Ytebklbncfcdkmaa.fnPlanAfter
