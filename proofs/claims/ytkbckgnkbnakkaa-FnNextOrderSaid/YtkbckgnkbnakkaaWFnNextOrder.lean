/-
  The walk of FnNextOrder.
-/
import Derived.Test.YtkbckgnkbnakkaaD4
import Derived.Test.YtkbckgnkbnakkaaV5
import Derived.Test.YtkbckgnkbnakkaaS1
import Derived.Test.YtkbckgnkbnakkaaPN
namespace Go.Proofs.Ytkbckgnkbnakkaa.fnNextOrder
open Go.RowKit Go.Proofs.Ytkbckgnkbnakkaa

set_option maxHeartbeats 2000000 in
theorem walk (a0 : Option Addr) (len0 cap0 : Nat) (z0 : List Int) (w : World) (w0 : IsRow .u8 w a0 len0 cap0 z0) :
    Calls Try.prog 12 #[.slice a0 len0 cap0] w fun e w' => e = .returned (.bool true) ∧ Below w.heap.size w w' := by
  have hle := w0.le
  have hby := w0.bytes
  clear w0
  by_cases hbig : len0 ≤ 1048576
  · go_enter Try.func12, Try.ntmps12
    go_wp2_with fail
    refine (drawViewNext_calls _ _ _ _ hle.1 hle.2 hby).mono ?_
    rintro e w1 ⟨num, a, a1, a2, cap, cap1, cap2, xs, failed, fresh, rfl, hn0, hn1, hx0, hx1, hf1, hr1, ix, jf, jr, hb1⟩
    have hxl : xs.length ≤ 1099511627776 := by omega
    have hfl : failed.length ≤ 1099511627776 := by omega
    have hrl : fresh.length ≤ 1099511627776 := by omega
    have hrl' : fresh.length ≤ 10000000 := by omega
    have s1 := (St.start w1).alloc (.cells #[.int .i64 num, .slice a xs.length cap] 25)
    go_wp2_with fail
    refine (viewNext_calls _ _ _ _ _ _ _ _ _ _ _ hxl hfl hrl (ix.below s1.below) (jf.below s1.below) (jr.below s1.below)).mono ?_
    rintro e w2 ⟨b, capb, rfl, ho2, hb2⟩
    have s2 := (s1.fresh hb2 ho2 (Nat.le_refl _)).at1
    obtain ⟨c2, _⟩ := s2.cells
    have l2 := s2.lt.2
    have hdec := nextGood num xs failed fresh
    have hyl := nextLen num xs failed fresh
    generalize hnn : nextNum num xs failed fresh = nn at *
    generalize hyy : nextIds num xs failed fresh = ys at *
    generalize hok : nextOk num xs failed fresh = ok at *
    have HD := Lib.hid hdec
    have HE := Lib.hid hnn
    have HF := Lib.hid hyy
    have HG := Lib.hid hok
    have HY := Lib.hid (show ys.length ≤ 1099511627776 by omega)
    clear hdec s1 ho2 hb2 hnn hyy hok hyl
    go_wp2_with fail
    have s3 := s2.alloc (.cells #[.int .i64 nn, .slice b ys.length capb] 25)
    refine (specViewNext_calls _ _ _ _ _ _ _ _ _ _ _ hxl hfl hrl' (ix.below s3.below) (jf.below s3.below) (jr.below s3.below)).mono ?_
    unfold Nexted
    rw [HE.out, HF.out, HG.out]
    rintro e w4 ⟨d, capd, rfl, ho4, hb4⟩
    have s4 := s3.fresh hb4 ho4 (Nat.le_refl _)
    obtain ⟨c6, _⟩ := s4.at1.cells
    have l6 := s4.at1.lt.2
    have HB := Lib.hid (fun W R (k : St w1 W R) => hb1.trans (k.below.mono hb1.size))
    clear s2 s3 c2 ho4 l2 hb1 hb4 hn0 hn1 hby
    have s5 := s4.alloc (.cells #[.int .i64 nn, .slice d ys.length capd] 25)
    have i5 := own_intsR s5.at4.own
    have k5 := own_intsR s5.at1.own
    go_wp2_with fail
    refine (sameView_eq _ _ _ _ _ _ _ HY.out i5 k5).mono ?_
    rintro e w6 ⟨rfl, hb6⟩
    have s6 := s5.call hb6
    obtain ⟨d8, _⟩ := s6.cells
    obtain ⟨d6, _⟩ := s6.at2.cells
    clear s4 s5 i5 k5 hb6 c6 l6
    cases ok with
    | false =>
      go_wp2_with fail
      refine (sameView_eq _ _ _ _ _ _ _ HY.out (own_intsR s6.at4.own) (own_intsR s6.at1.own)).mono ?_
      rintro e w7 ⟨rfl, hb7⟩
      go_wp2_with fail
      go_ret
      exact ⟨rfl, HB.out _ _ (s6.call hb7)⟩
    | true =>
      obtain ⟨rfl, hys, hv1, hv2⟩ := HD.out rfl
      clear HD HE HF HG
      have KA := Lib.hid (fun i (hi : i < xs.length) (h : xs[i] ∉ failed) => hys ▸ kept_at (fresh := fresh) hi h)
      have KS := Lib.hid (fun i (hi : i < xs.length) => kept_snoc (xs.take i) failed xs[i])
      have KT := Lib.hid (show ys.drop (keptIds xs failed).length = fresh by rw [hys]; exact kept_tail _ _ _)
      obtain ⟨_, hy1, hy5, _, _⟩ := viewOk_ids hv2
      rw [← hys] at hy1 hy5
      have KL : ys.length = (keptIds xs failed).length + fresh.length := by rw [hys]; simp
      have KL2 : (keptIds xs failed).length + fresh.length ≤ ys.length ∧ ys.length ≤ (keptIds xs failed).length + fresh.length := by omega
      obtain ⟨KL3, KL4⟩ := KL2
      clear hys hv1 hv2 KL
      have s6 := s6.drop.drop
      clear d8
      obtain ⟨d3, _⟩ := s6.at1.cells
      go_wp2_with fail
      obtain ⟨g, capg, eb, hbg, _⟩ := s6.at2.own.form (by omega)
      cases eb
      have hcy : ys.length ≤ capb := by
        rcases s6.at2.own.2 with ⟨e, _⟩ | ⟨g', cap', cur, e, _, _, h, _⟩
        · simp at e
        · cases e; exact h
      have i6 := own_intsR s6.at2.own
      have f6 := jf.below s6.below
      have r6 := jr.below s6.below
      have x6 := ix.below s6.below
      go_loopw [10, 11] (fun c i wr => ∃ (k m : Nat), k ≤ xs.length ∧ i = .int .i64 k ∧ c = .int .i64 (keptIds (xs.take k) failed).length ∧ wr = w6.drewN m) (fun _ i _ => xs.length - (intOf i).toNat)
      case atStart => exact ⟨0, 0, Nat.zero_le _, rfl, rfl, rfl⟩
      case round =>
        obtain ⟨k, m, hk, rfl, rfl, rfl⟩ := hrel
        have KL5 := kept_len (xs.take k) failed
        simp only [List.length_take] at KL5
        by_cases hlt : k < xs.length
        · rcases id x6 with rfl | ⟨gx, ox, rfl, hc⟩
          · simp at hlt
          have hcell := hc k hlt
          simp only [List.getD, List.getElem?_eq_getElem hlt, Option.getD_some] at hcell
          have i1 : (0 : Int) ≤ (k : Int) := by omega
          have i2 : (k : Int) < (xs.length : Int) := by omega
          have ka := KA.out k hlt
          have ks := KS.out k hlt
          rw [← take_snoc' xs k hlt] at ks
          clear hc
          generalize xs[k] = y at *
          by_cases hin : y ∈ failed
          · rw [if_pos hin] at ks
            have H1 := Lib.hid (hasInt_yes a1 cap1 failed y (w6.drewN m) hfl (f6.drewN m) hin)
            have HS := Lib.hid ks
            clear hin ks ka
            go_wp2_with fail
            refine H1.out.mono ?_
            rintro e w7 ⟨rfl, rfl⟩
            go_wp2_with fail
            go_roundw
            case rel => exact ⟨k + 1, m, hlt, by go_num, by rw [HS.out], rfl⟩
            case measure => simp [intOf]; omega
          · rw [if_neg hin] at ks
            obtain ⟨ka1, ka2⟩ := ka hin
            have H1 := Lib.hid (hasInt_no a1 cap1 failed y (w6.drewN m) hfl (f6.drewN m) hin)
            have HS := Lib.hid (show (keptIds (xs.take (k + 1)) failed).length = (keptIds (xs.take k) failed).length + 1 by rw [ks]; simp)
            have hcw : w6.cell? ⟨g, (keptIds (xs.take k) failed).length, none⟩ = some (.int .i64 y) := by
              rw [s6.at2.own.cellAt _ (by omega)]
              simp [ka2]
            clear hin ks ka2 ka
            generalize (keptIds (xs.take k) failed).length = c at *
            have i3 : (0 : Int) ≤ (c : Int) := by omega
            have i4 : (c : Int) < (ys.length : Int) := by omega
            have hd : decide (ys.length ≤ c) = false := decide_eq_false (by omega)
            have hd2 : ((y : Int) != y) = false := by simp
            go_wp2_with fail
            refine H1.out.mono ?_
            rintro e w7 ⟨rfl, rfl⟩
            go_wp2_with fail
            go_quiet (fail)
            go_wp2_with fail
            go_roundw
            case rel => exact ⟨k + 1, _, hlt, by go_num, by rw [HS.out]; go_num, rfl⟩
            case measure => simp [intOf]; omega
        · have ek : xs.take k = xs := List.take_of_length_le (by omega)
          rw [ek]
          clear ek KL5
          have id6 := (ints_drop i6 (keptIds xs failed).length).drewN m
          rw [Nat.zero_add, KT.out] at id6
          have s7 := s6.drewN m
          clear KA KS
          generalize (keptIds xs failed).length = c at *
          have e1 : ys.length - c = fresh.length := by omega
          have EE := Lib.hid e1
          clear e1
          go_wp2_with fail
          all_goals rw [EE.out]
          · refine (sameInts_eq _ _ _ _ _ _ hrl (.inl (List.eq_nil_of_length_eq_zero (by omega))) (r6.drewN m)).mono ?_
            rintro e w7 ⟨rfl, hb7⟩
            go_wp2_with fail
            go_ret
            exact ⟨rfl, HB.out _ _ (s7.call hb7)⟩
          · refine (sameInts_eq _ _ _ _ _ _ hrl id6 (r6.drewN m)).mono ?_
            rintro e w7 ⟨rfl, hb7⟩
            go_wp2_with fail
            go_ret
            exact ⟨rfl, HB.out _ _ (s7.call hb7)⟩
  · go_enter Try.func12, Try.ntmps12
    go_wp2_with fail
    go_ret
    exact ⟨rfl, Below.refl _ _⟩

end Go.Proofs.Ytkbckgnkbnakkaa.fnNextOrder
