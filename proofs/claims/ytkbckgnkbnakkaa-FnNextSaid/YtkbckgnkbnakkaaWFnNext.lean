/-
  The walk of FnNext.
-/
import Derived.Test.YtkbckgnkbnakkaaD4
import Derived.Test.YtkbckgnkbnakkaaV5
import Derived.Test.YtkbckgnkbnakkaaS1
import Derived.Test.YtkbckgnkbnakkaaPN
namespace Go.Proofs.Ytkbckgnkbnakkaa.fnNext
open Go.RowKit Go.Proofs.Ytkbckgnkbnakkaa

set_option maxHeartbeats 2000000 in
theorem walk (a0 : Option Addr) (len0 cap0 : Nat) (z0 : List Int) (w : World) (w0 : IsRow .u8 w a0 len0 cap0 z0) :
    Calls Try.prog 11 #[.slice a0 len0 cap0] w fun e w' => e = .returned (.bool true) ∧ Below w.heap.size w w' := by
  have hle := w0.le
  have hby := w0.bytes
  clear w0
  by_cases hbig : len0 ≤ 1048576
  · go_enter Try.func11, Try.ntmps11
    go_wp2_with fail
    refine (drawViewNext_calls _ _ _ _ hle.1 hle.2 hby).mono ?_
    rintro e w1 ⟨num, a, a1, a2, cap, cap1, cap2, xs, failed, fresh, rfl, hn0, hn1, hx0, hx1, hf1, hr1, ix, jf, jr, hb1⟩
    have hxl : xs.length ≤ 1099511627776 := by omega
    have hfl : failed.length ≤ 1099511627776 := by omega
    have hrl : fresh.length ≤ 1099511627776 := by omega
    have hrl' : fresh.length ≤ 10000000 := by omega
    have s1 := (St.start w1).alloc (.cells #[.int .i64 num, .slice a xs.length cap] 25)
    go_wp2_with fail
    refine (viewNext_calls _ _ _ _ _ _ _ _ _ _ _ hxl hfl hrl (ix.below s1.below) (jf.below s1.below) (jr.below s1.below)).mono ?_
    rintro e w2 ⟨b, capb, rfl, ho2, hb2⟩
    have s2 := (s1.fresh hb2 ho2 (Nat.le_refl _)).at1
    obtain ⟨c2, _⟩ := s2.cells
    have l2 := s2.lt.2
    have hdec := nextGood num xs failed fresh
    have hyl := nextLen num xs failed fresh
    generalize hnn : nextNum num xs failed fresh = nn at *
    generalize hyy : nextIds num xs failed fresh = ys at *
    generalize hok : nextOk num xs failed fresh = ok at *
    have HD := Lib.hid hdec
    have HE := Lib.hid hnn
    have HF := Lib.hid hyy
    have HG := Lib.hid hok
    have HY := Lib.hid (show ys.length ≤ 1099511627776 by omega)
    clear hdec s1 ho2 hb2 hnn hyy hok hyl
    go_wp2_with fail
    have s3 := s2.alloc (.cells #[.int .i64 nn, .slice b ys.length capb] 25)
    refine (specViewNext_calls _ _ _ _ _ _ _ _ _ _ _ hxl hfl hrl' (ix.below s3.below) (jf.below s3.below) (jr.below s3.below)).mono ?_
    unfold Nexted
    rw [HE.out, HF.out, HG.out]
    rintro e w4 ⟨d, capd, rfl, ho4, hb4⟩
    have s4 := s3.fresh hb4 ho4 (Nat.le_refl _)
    obtain ⟨c6, _⟩ := s4.at1.cells
    have l6 := s4.at1.lt.2
    have HB := Lib.hid (fun W R (k : St w1 W R) => hb1.trans (k.below.mono hb1.size))
    clear s2 s3 c2 ho4 l2 hb1 hb4 hn0 hn1 hby
    have s5 := s4.alloc (.cells #[.int .i64 nn, .slice d ys.length capd] 25)
    have i5 := own_intsR s5.at4.own
    have k5 := own_intsR s5.at1.own
    go_wp2_with fail
    refine (sameView_eq _ _ _ _ _ _ _ HY.out i5 k5).mono ?_
    rintro e w6 ⟨rfl, hb6⟩
    have s6 := s5.call hb6
    obtain ⟨d8, _⟩ := s6.cells
    obtain ⟨d6, _⟩ := s6.at2.cells
    clear s4 s5 i5 k5 hb6 c6 l6
    cases ok with
    | false =>
      go_wp2_with fail
      refine (sameView_eq _ _ _ _ _ _ _ HY.out (own_intsR s6.at4.own) (own_intsR s6.at1.own)).mono ?_
      rintro e w7 ⟨rfl, hb7⟩
      go_wp2_with fail
      go_ret
      exact ⟨rfl, HB.out _ _ (s6.call hb7)⟩
    | true =>
      obtain ⟨rfl, hys, hv1, hv2⟩ := HD.out rfl
      clear HD HE HF HG
      have HYS := Lib.hid hys
      obtain ⟨_, _, _, hnu0, hnu1⟩ := viewOk_ids hv1
      have FI := Lib.hid (fun x (h1 : x ∈ ys) (h2 : x ∈ failed) => next_failed (by rw [← hys]; exact h1) h2)
      rw [← hys] at hv2
      have HV := Lib.hid hv2
      clear hys hv1 hv2
      have hyl := HY.out
      have s6 := s6.drop.drop
      clear d8
      go_wp2_with fail
      have i6 := own_intsR s6.at2.own
      have f6 := jf.below s6.below
      have r6 := jr.below s6.below
      go_loop [10] (fun i => ∃ k : Nat, k ≤ ys.length ∧ i = .int .i64 k) (fun i => ys.length - (intOf i).toNat)
      case atStart => exact ⟨0, Nat.zero_le _, rfl⟩
      case round =>
        obtain ⟨k, hk, rfl⟩ := hrel
        by_cases hlt : k < ys.length
        · rcases id i6 with rfl | ⟨g, off, rfl, hc⟩
          · simp at hlt
          have hcell := hc k hlt
          simp only [List.getD, List.getElem?_eq_getElem hlt, Option.getD_some] at hcell
          have i1 : (0 : Int) ≤ (k : Int) := by omega
          have i2 : (k : Int) < (ys.length : Int) := by omega
          have hmem : ys[k] ∈ ys := List.getElem_mem hlt
          generalize ys[k] = y at *
          have FY := Lib.hid (FI.out y hmem)
          clear hc hmem
          by_cases hin : y ∈ failed
          · have H1 := Lib.hid (hasInt_yes a1 cap1 failed y w6 hfl f6 hin)
            have H2 := Lib.hid (hasInt_yes a2 cap2 fresh y w6 hrl r6 (FY.out hin))
            clear hin
            go_wp2_with fail
            refine H1.out.mono ?_
            rintro e w7 ⟨rfl, rfl⟩
            go_wp2_with fail
            refine H2.out.mono ?_
            rintro e w7 ⟨rfl, rfl⟩
            go_wp2_with fail
            go_round
            case rel => exact ⟨k + 1, hlt, by go_num⟩
            case measure => simp [intOf]; omega
          · have H1 := Lib.hid (hasInt_no a1 cap1 failed y w6 hfl f6 hin)
            clear hin
            go_wp2_with fail
            refine H1.out.mono ?_
            rintro e w7 ⟨rfl, rfl⟩
            go_wp2_with fail
            go_round
            case rel => exact ⟨k + 1, hlt, by go_num⟩
            case measure => simp [intOf]; omega
        · go_wp2_with fail
          refine (viewValid_calls _ _ _ _ _ HY.out i6).mono ?_
          rw [HV.out]
          rintro e w7 ⟨rfl, hb7⟩
          have s7 := s6.call hb7
          obtain ⟨q6, _⟩ := s7.cells
          obtain ⟨q3, _⟩ := s7.at1.cells
          clear s6 d6
          go_wp2_with fail
          go_ret
          exact ⟨rfl, HB.out _ _ s7⟩
  · go_enter Try.func11, Try.ntmps11
    go_wp2_with fail
    go_ret
    exact ⟨rfl, Below.refl _ _⟩

end Go.Proofs.Ytkbckgnkbnakkaa.fnNext
