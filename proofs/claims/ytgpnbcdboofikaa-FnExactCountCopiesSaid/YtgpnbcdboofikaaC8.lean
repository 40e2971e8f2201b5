
/-
  The walks of the reference's CountCopies and of CountSafe. No statement is proved here.
-/
import Derived.Test.YtgpnbcdboofikaaC7
namespace Go.Proofs.Ytgpnbcdboofikaa
open Go.RowKit

set_option maxHeartbeats 4000000 in
theorem specCountCopies_calls (view : Int) (a : Option Addr) (cap : Nat) (ns : List Nd) (w : World) (hm : ns.length ≤ 1099511627776) (hc : ns.length ≤ cap) (hs : Short ns 1099511627776) (hx : NodesAt w a ns) :
    Calls Try.prog 16 #[.agg #[.int .i64 view, .slice a ns.length cap]] w (MadeInts w (copiesOf view ns)) := by
  have s0 := (St.start w).alloc (.cells #[.int .i64 view, .slice a ns.length cap] 25)
  cases hv : chainOk view ns with
  | false =>
    have F : Hid (copiesOf view ns = []) := Lib.hid (by rw [copiesOf, hv]; rfl)
    have HV := Lib.hid hv
    clear hv
    go_enter Try.func16, Try.ntmps16
    go_wp2_with fail
    refine (specChainValid_calls _ _ _ _ _ hm hc hs (hx.below s0.below)).mono ?_
    rw [HV.out]
    rintro e w1 ⟨rfl, hb⟩
    have s1 := (((s0.call hb).drop).alloc (.cells #[] 3)).madeRow 1 0 rfl (by simp [maxLen]) 0 (Nat.le_refl _)
    go_wp2_with fail
    go_ret
    exact madeInts (ys := []) s1 F.out
  | true =>
    have F : Hid (copiesOf view ns = vec (nd ns 0).us.length (cnt ns)) := Lib.hid (by rw [copiesOf, hv]; rfl)
    have CL := Lib.hid (chain_logs hv)
    obtain ⟨_, ⟨hl1, hl5⟩, _, _⟩ := chainOk_iff.1 hv
    have hL12 := (CL.out 0 (by omega)).2
    have HMK := Lib.hid (make_ints (nd ns 0).us.length (by omega))
    have HV := Lib.hid hv
    have i0 : (0 : Int) < (ns.length : Int) := by omega
    have i0' : 0 < ns.length := by omega
    clear hv
    go_enter Try.func16, Try.ntmps16
    go_wp2_with fail
    refine (specChainValid_calls _ _ _ _ _ hm hc hs (hx.below s0.below)).mono ?_
    rw [HV.out]
    rintro e w1 ⟨rfl, hb⟩
    have s1 := s0.call hb
    obtain ⟨x1, _⟩ := s1.cells
    obtain ⟨b, off, rfl, _, c1, _⟩ := (hx.below s1.below).cells 0 (by omega)
    rw [Nat.zero_mul, Nat.add_zero] at c1
    have MK := HMK.out
    generalize hL : (nd ns 0).us.length = L at *
    have s4 := (s1.alloc (.cells (Array.replicate L (Value.int .i64 0)) 3)).madeRow 1 L (by simp) (by unfold maxLen; omega) L (Nat.le_refl _)
    have e4 : (Array.replicate L (Value.int .i64 0)).toList.take (L * 1) = (vec L (cnt (ns.take 0))).map (Value.int .i64) := by
      rw [show cnt (ns.take 0) = fun _ => 0 from rfl, vec_zero]; simp
    rw [e4] at s4
    clear s0 s1 e4 hb hL
    go_wp2_with fail
    clear MK x1 c1
    generalize w1.alloc (.cells (Array.replicate L (Value.int .i64 0)) 3 (0, 0)) = wa at *
    generalize w1.heap.size = g at *
    go_loopw [4] (fun i wr => ∃ k : Nat, k ≤ ns.length ∧ i = .int .i64 k ∧ St w wr (row (.slice (some ⟨g, 0, none⟩) L L) 3 1 L ((vec L (cnt (ns.take k))).map (Value.int .i64)) :: box w.heap.size #[.int .i64 view, .slice (some ⟨b, off, none⟩) ns.length cap] 25 :: [])) (fun i _ => ns.length - (intOf i).toNat)
    case atStart => exact ⟨0, Nat.zero_le _, rfl, s4⟩
    case round =>
      clear s4
      obtain ⟨m, hm', rfl, s7⟩ := hrel
      obtain ⟨x7, _⟩ := s7.drop.cells
      by_cases hlt : m < ns.length
      · have DN : Hid (ns.take (m + 1) = ns.take m ++ [nd ns m]) := Lib.hid (by rw [List.take_succ_eq_append_getElem hlt, nd_eq hlt])
        have hll := CL.out m hlt
        have s10 : St w wr (row (.slice (some ⟨g, 0, none⟩) L L) 3 1 L ((vec L fun j => cnt (ns.take m) j + if j < 0 then 1 else 0).map (Value.int .i64)) :: box w.heap.size #[.int .i64 view, .slice (some ⟨b, off, none⟩) ns.length cap] 25 :: []) := by
          simpa using s7
        have CE : Hid ((vec L fun j => cnt (ns.take m) j + if j < (nd ns m).us.length then 1 else 0) = vec L (cnt (ns.take (m + 1)))) := Lib.hid (vec_ext fun j _ => by rw [DN.out, cnt_append, cnt_cons, cnt_nil, Nat.zero_add])
        have CB := Lib.hid (fun j => Nat.le_trans (cnt_le (ns.take m) j) (show (ns.take m).length ≤ 5 by simp; omega))
        have CC := Lib.hid (fun W (h : Below w.heap.size w W) => (hx.below h).cells m hlt)
        have j1 : (0 : Int) ≤ (m : Int) := by omega
        have j2 : (m : Int) < (ns.length : Int) := by omega
        clear s7
        generalize (nd ns m).us.length = l at *
        go_wp2_with fail
        clear x7
        go_loopw [5] (fun i wr => ∃ k : Nat, k ≤ l ∧ i = .int .i64 k ∧ St w wr (row (.slice (some ⟨g, 0, none⟩) L L) 3 1 L ((vec L fun j => cnt (ns.take m) j + if j < k then 1 else 0).map (Value.int .i64)) :: box w.heap.size #[.int .i64 view, .slice (some ⟨b, off, none⟩) ns.length cap] 25 :: [])) (fun i _ => l - (intOf i).toNat)
        case atStart => exact ⟨0, Nat.zero_le _, rfl, s10⟩
        case round =>
          clear s10
          obtain ⟨k, hk, rfl, s11⟩ := hrel
          obtain ⟨b', off', e', _, d1, _⟩ := CC.out _ s11.below
          cases e'
          obtain ⟨x7, _⟩ := s11.drop.cells
          have i1 : (0 : Int) ≤ (k : Int) := by omega
          by_cases hlt2 : k < l
          · have ck := (s11.own.cellAt k (by omega)).trans (vec_cell (by omega))
            have fk := s11.own.frozenAt k
            have i2 : (k : Int) < (l : Int) := by omega
            have i3 : (k : Int) < (L : Int) := by omega
            have hcb := CB.out k
            have s12 := s11.rowSet k (.int .i64 ((cnt (ns.take m) k : Int) + 1))
            rw [vec_set] at s12
            simp only [Nat.lt_irrefl, if_false, Nat.add_zero] at ck
            have FIN := Lib.hid s12
            clear s11 s12
            generalize cnt (ns.take m) k = z at *
            go_wp2_with fail
            go_roundw
            case rel => exact ⟨k + 1, hlt2, by go_num, FIN.out⟩
            case measure => simp [intOf]; omega
          · have ekl : k = l := by omega
            have FIN : Hid (St w wr (row (.slice (some ⟨g, 0, none⟩) L L) 3 1 L ((vec L (cnt (ns.take (m + 1)))).map (Value.int .i64)) :: box w.heap.size #[.int .i64 view, .slice (some ⟨b, off, none⟩) ns.length cap] 25 :: [])) := Lib.hid (by rw [← CE.out, ← ekl]; exact s11)
            clear ekl s11
            go_wp2_with fail
            go_roundw
            case rel => exact ⟨m + 1, hlt, by go_num, FIN.out⟩
            case measure => simp [intOf]; omega
      · rw [List.take_of_length_le (by omega)] at s7
        go_wp2_with fail
        go_ret
        exact madeInts (ys := vec L (cnt ns)) (by rw [vec_len]; exact s7.only) F.out

/-- What CountSafe gives. -/
noncomputable def safeOf (view : Int) (ns : List Nd) (fail : Int) : Int :=
  if chainOk view ns = true ∧ 0 ≤ fail ∧ fail < ns.length then (((copiesOf view ns).filter fun c => decide (fail < c)).length : Int) else -1
theorem safe_bad1 {view : Int} {ns : List Nd} {fail : Int} (h : chainOk view ns = false) : safeOf view ns fail = -1 := by rw [safeOf, if_neg (by rw [h]; simp)]
theorem safe_bad2 {view : Int} {ns : List Nd} {fail : Int} (h : ¬ (0 ≤ fail ∧ fail < ns.length)) : safeOf view ns fail = -1 := by rw [safeOf, if_neg (fun hc => h hc.2)]
theorem safe_good {view : Int} {ns : List Nd} {fail : Int} (h : chainOk view ns = true) (h1 : 0 ≤ fail) (h2 : fail < ns.length) : safeOf view ns fail = ((copiesOf view ns).filter fun c => decide (fail < c)).length := by rw [safeOf, if_pos ⟨h, h1, h2⟩]
theorem copies_len {view : Int} {ns : List Nd} : (copiesOf view ns).length ≤ 12 := by
  unfold copiesOf
  split
  · rename_i h
    rw [vec_len]
    have := (chainOk_iff.1 h).2.1
    exact (chain_logs h 0 (by omega)).2
  · simp
theorem above_snoc {xs : List Int} {k : Nat} {f : Int} (h : k < xs.length) : ((xs.take (k + 1)).filter fun c => decide (f < c)).length = ((xs.take k).filter fun c => decide (f < c)).length + if f < xs[k] then 1 else 0 := by
  rw [take_snoc' xs k h, List.filter_append, List.length_append]
  by_cases hf : f < xs[k] <;> simp [hf]

set_option maxHeartbeats 2000000 in
theorem countSafe_calls (view : Int) (a : Option Addr) (cap : Nat) (ns : List Nd) (fail : Int) (w : World) (hm : ns.length ≤ 1099511627776) (hs : Short ns 1099511627776) (hx : NodesAt w a ns) :
    Calls Try.prog 25 #[.agg #[.int .i64 view, .slice a ns.length cap], .int .i64 fail] w fun e w' => e = .returned (.int .i64 (safeOf view ns fail)) ∧ Below w.heap.size w w' := by
  have s0 := (St.start w).alloc (.cells #[.int .i64 view, .slice a ns.length cap] 25)
  cases hv : chainOk view ns with
  | false =>
    have F := Lib.hid (safe_bad1 (fail := fail) hv)
    have HV := Lib.hid hv
    clear hv
    go_enter Try.func25, Try.ntmps25
    go_wp2_with fail
    refine (chainValid_calls _ _ _ _ _ hm hs (hx.below s0.below)).mono ?_
    rw [HV.out]
    rintro e w1 ⟨rfl, hb⟩
    have s1 := s0.call hb
    go_wp2_with fail
    go_ret
    exact ⟨by rw [F.out]; rfl, s1.below⟩
  | true =>
    by_cases h1 : 0 ≤ fail
    · by_cases h2 : fail < ns.length
      · have F := Lib.hid (safe_good hv h1 h2)
        have CL := copies_len (view := view) (ns := ns)
        have CC := Lib.hid (fun W (h : Below w.heap.size w W) => countCopies_calls view a cap ns W hm hs (hx.below h))
        unfold MadeInts at CC
        generalize copiesOf view ns = xs at *
        have HV := Lib.hid hv
        clear hv
        go_enter Try.func25, Try.ntmps25
        go_wp2_with fail
        refine (chainValid_calls _ _ _ _ _ hm hs (hx.below s0.below)).mono ?_
        rw [HV.out]
        rintro e w1 ⟨rfl, hb⟩
        have s1 := s0.call hb
        obtain ⟨x1, _⟩ := s1.cells
        clear s0 hb
        go_wp2_with fail
        refine (CC.out _ s1.below).mono ?_
        rintro e w2 ⟨a2, cap2, rfl, ho, hb⟩
        have s2 := s1.fresh hb ho (Nat.le_refl _)
        have hxs := own_intsR s2.own
        have hB := s2.below
        clear s1 x1 ho hb
        go_wp2_with fail
        go_loop [5, 25] (fun c i => ∃ k : Nat, k ≤ xs.length ∧ i = .int .i64 k ∧ c = .int .i64 (((xs.take k).filter fun c => decide (fail < c)).length : Nat)) (fun _ i => xs.length - (intOf i).toNat)
        case atStart => exact ⟨0, Nat.zero_le _, rfl, rfl⟩
        case round =>
          obtain ⟨k, hk, rfl, rfl⟩ := hrel
          by_cases hlt : k < xs.length
          · rcases id hxs with rfl | ⟨b, off, rfl, hc⟩
            · simp at hlt
            have hcell := hc k hlt
            have i1 : (0 : Int) ≤ (k : Int) := by omega
            have i2 : (k : Int) < (xs.length : Int) := by omega
            have SN := Lib.hid (above_snoc (f := fail) hlt)
            have hle : ((xs.take k).filter fun c => decide (fail < c)).length ≤ 12 := Nat.le_trans (List.length_filter_le _ _) (by simp; omega)
            simp only [List.getD, List.getElem?_eq_getElem hlt, Option.getD_some] at hcell
            generalize xs[k] = y at *
            generalize ((xs.take k).filter fun c => decide (fail < c)).length = z at *
            clear hc
            by_cases hy : fail < y
            · go_wp2_with fail
              go_round
              case rel => exact ⟨k + 1, hlt, by go_num, by rw [SN.out, if_pos hy]; go_num⟩
              case measure => simp [intOf]; omega
            · go_wp2_with fail
              go_round
              case rel => exact ⟨k + 1, hlt, by go_num, by rw [SN.out, if_neg hy]; go_num⟩
              case measure => simp [intOf]; omega
          · have FF : Hid (safeOf view ns fail = (((xs.take k).filter fun c => decide (fail < c)).length : Nat)) := Lib.hid (by rw [F.out, List.take_of_length_le (by omega)])
            go_wp2_with fail
            go_ret
            exact ⟨by rw [FF.out]; rfl, hB⟩
      · have F := Lib.hid (safe_bad2 (view := view) (ns := ns) (fail := fail) (fun h => h2 h.2))
        have HV := Lib.hid hv
        clear hv
        go_enter Try.func25, Try.ntmps25
        go_wp2_with fail
        refine (chainValid_calls _ _ _ _ _ hm hs (hx.below s0.below)).mono ?_
        rw [HV.out]
        rintro e w1 ⟨rfl, hb⟩
        have s1 := s0.call hb
        obtain ⟨x1, _⟩ := s1.cells
        go_wp2_with fail
        go_ret
        exact ⟨by rw [F.out]; rfl, s1.below⟩
    · have F := Lib.hid (safe_bad2 (view := view) (ns := ns) (fail := fail) (fun h => h1 h.1))
      have HV := Lib.hid hv
      clear hv
      go_enter Try.func25, Try.ntmps25
      go_wp2_with fail
      refine (chainValid_calls _ _ _ _ _ hm hs (hx.below s0.below)).mono ?_
      rw [HV.out]
      rintro e w1 ⟨rfl, hb⟩
      have s1 := s0.call hb
      obtain ⟨x1, _⟩ := s1.cells
      go_wp2_with fail
      go_ret
      exact ⟨by rw [F.out]; rfl, s1.below⟩

end Go.Proofs.Ytgpnbcdboofikaa
