
/-
  The walk of the reference's CountSafe. No statement is proved here.
-/
import Derived.Test.YtgpnbcdboofikaaC8
namespace Go.Proofs.Ytgpnbcdboofikaa
open Go.RowKit

set_option maxHeartbeats 2000000 in
theorem specCountSafe_calls (view : Int) (a : Option Addr) (cap : Nat) (ns : List Nd) (fail : Int) (w : World) (hm : ns.length ≤ 1099511627776) (hc : ns.length ≤ cap) (hs : Short ns 1099511627776) (hx : NodesAt w a ns) :
    Calls Try.prog 26 #[.agg #[.int .i64 view, .slice a ns.length cap], .int .i64 fail] w fun e w' => e = .returned (.int .i64 (safeOf view ns fail)) ∧ Below w.heap.size w w' := by
  have s0 := (St.start w).alloc (.cells #[.int .i64 view, .slice a ns.length cap] 25)
  cases hv : chainOk view ns with
  | false =>
    have F := Lib.hid (safe_bad1 (fail := fail) hv)
    have HV := Lib.hid hv
    clear hv
    go_enter Try.func26, Try.ntmps26
    go_wp2_with fail
    refine (specChainValid_calls _ _ _ _ _ hm hc hs (hx.below s0.below)).mono ?_
    rw [HV.out]
    rintro e w1 ⟨rfl, hb⟩
    have s1 := s0.call hb
    go_wp2_with fail
    go_ret
    exact ⟨by rw [F.out]; rfl, s1.below⟩
  | true =>
    by_cases h1 : 0 ≤ fail
    · by_cases h2 : fail < ns.length
      · have H6 := Lib.hid (show (0 : Int) ≤ fail ∧ fail ≤ (ns.length : Int) - 1 by omega)
        have F := Lib.hid (safe_good hv h1 h2)
        have CL := copies_len (view := view) (ns := ns)
        have CC := Lib.hid (fun W (h : Below w.heap.size w W) => specCountCopies_calls view a cap ns W hm hc hs (hx.below h))
        unfold MadeInts at CC
        generalize copiesOf view ns = xs at *
        have HV := Lib.hid hv
        clear hv
        go_enter Try.func26, Try.ntmps26
        go_wp2_with fail
        refine (specChainValid_calls _ _ _ _ _ hm hc hs (hx.below s0.below)).mono ?_
        rw [HV.out]
        rintro e w1 ⟨rfl, hb⟩
        have s1 := s0.call hb
        obtain ⟨x1, _⟩ := s1.cells
        clear s0 hb
        go_wp2_with fail
        refine (l6In_yes _ _ _ _ H6.out).mono ?_
        rintro e w' ⟨rfl, rfl⟩
        go_wp2_with fail
        refine (CC.out _ s1.below).mono ?_
        rintro e w2 ⟨a2, cap2, rfl, ho, hb⟩
        have s2 := s1.fresh hb ho (Nat.le_refl _)
        have hxs := own_intsR s2.own
        have hB := s2.below
        clear s1 x1 ho hb
        go_wp2_with fail
        go_loop [6, 7] (fun c i => ∃ k : Nat, k ≤ xs.length ∧ i = .int .i64 k ∧ c = .int .i64 (((xs.take k).filter fun c => decide (fail < c)).length : Nat)) (fun _ i => xs.length - (intOf i).toNat)
        case atStart => exact ⟨0, Nat.zero_le _, rfl, rfl⟩
        case round =>
          obtain ⟨k, hk, rfl, rfl⟩ := hrel
          by_cases hlt : k < xs.length
          · rcases id hxs with rfl | ⟨b, off, rfl, hc⟩
            · simp at hlt
            have hcell := hc k hlt
            have i1 : (0 : Int) ≤ (k : Int) := by omega
            have i2 : (k : Int) < (xs.length : Int) := by omega
            have SN := Lib.hid (above_snoc (f := fail) hlt)
            have hle : ((xs.take k).filter fun c => decide (fail < c)).length ≤ 12 := Nat.le_trans (List.length_filter_le _ _) (by simp; omega)
            simp only [List.getD, List.getElem?_eq_getElem hlt, Option.getD_some] at hcell
            generalize xs[k] = y at *
            generalize ((xs.take k).filter fun c => decide (fail < c)).length = z at *
            clear hc
            by_cases hy : fail < y
            · go_wp2_with fail
              go_round
              case rel => exact ⟨k + 1, hlt, by go_num, by rw [SN.out, if_pos hy]; go_num⟩
              case measure => simp [intOf]; omega
            · go_wp2_with fail
              go_round
              case rel => exact ⟨k + 1, hlt, by go_num, by rw [SN.out, if_neg hy]; go_num⟩
              case measure => simp [intOf]; omega
          · have FF : Hid (safeOf view ns fail = (((xs.take k).filter fun c => decide (fail < c)).length : Nat)) := Lib.hid (by rw [F.out, List.take_of_length_le (by omega)])
            go_wp2_with fail
            go_ret
            exact ⟨by rw [FF.out]; rfl, hB⟩
      · have F := Lib.hid (safe_bad2 (view := view) (ns := ns) (fail := fail) (fun h => h2 h.2))
        have H6 := Lib.hid (show ¬ ((0 : Int) ≤ fail ∧ fail ≤ (ns.length : Int) - 1) by omega)
        have HV := Lib.hid hv
        clear hv
        go_enter Try.func26, Try.ntmps26
        go_wp2_with fail
        refine (specChainValid_calls _ _ _ _ _ hm hc hs (hx.below s0.below)).mono ?_
        rw [HV.out]
        rintro e w1 ⟨rfl, hb⟩
        have s1 := s0.call hb
        obtain ⟨x1, _⟩ := s1.cells
        go_wp2_with fail
        refine (l6In_no _ _ _ _ H6.out).mono ?_
        rintro e w' ⟨rfl, rfl⟩
        go_wp2_with fail
        go_ret
        exact ⟨by rw [F.out]; rfl, s1.below⟩
    · have F := Lib.hid (safe_bad2 (view := view) (ns := ns) (fail := fail) (fun h => h1 h.1))
      have H6 := Lib.hid (show ¬ ((0 : Int) ≤ fail ∧ fail ≤ (ns.length : Int) - 1) by omega)
      have HV := Lib.hid hv
      clear hv
      go_enter Try.func26, Try.ntmps26
      go_wp2_with fail
      refine (specChainValid_calls _ _ _ _ _ hm hc hs (hx.below s0.below)).mono ?_
      rw [HV.out]
      rintro e w1 ⟨rfl, hb⟩
      have s1 := s0.call hb
      obtain ⟨x1, _⟩ := s1.cells
      go_wp2_with fail
      refine (l6In_no _ _ _ _ H6.out).mono ?_
      rintro e w' ⟨rfl, rfl⟩
      go_wp2_with fail
      go_ret
      exact ⟨by rw [F.out]; rfl, s1.below⟩

end Go.Proofs.Ytgpnbcdboofikaa
