/-
  The walk of FnNextTakes.
-/
import Derived.Test.YtkbckgnkbnakkaaD4
import Derived.Test.YtkbckgnkbnakkaaV5
import Derived.Test.YtkbckgnkbnakkaaS1
import Derived.Test.YtkbckgnkbnakkaaPN
import Derived.Deep.RegionHeld3
namespace Go.Proofs.Ytkbckgnkbnakkaa.fnNextTakes
open Go.RowKit Go.Proofs.Ytkbckgnkbnakkaa

set_option maxHeartbeats 2000000 in
theorem walk (a0 : Option Addr) (len0 cap0 : Nat) (z0 : List Int) (w : World) (w0 : IsRow .u8 w a0 len0 cap0 z0) :
    Calls Try.prog 14 #[.slice a0 len0 cap0] w fun e w' => e = .returned (.bool true) ∧ Below w.heap.size w w' := by
  have hle := w0.le
  have hby := w0.bytes
  clear w0
  by_cases hbig : len0 ≤ 1048576
  · go_enter Try.func14, Try.ntmps14
    go_wp2_with fail
    refine (drawViewNext_calls _ _ _ _ hle.1 hle.2 hby).mono ?_
    rintro e w1 ⟨num, a, a1, a2, cap, cap1, cap2, xs, failed, fresh, rfl, hn0, hn1, hx0, hx1, hf1, hr1, ix, jf, jr, hb1⟩
    have hxl : xs.length ≤ 1099511627776 := by omega
    have hfl : failed.length ≤ 1099511627776 := by omega
    have hrl : fresh.length ≤ 1099511627776 := by omega
    have hrl' : fresh.length ≤ 10000000 := by omega
    have s1 := (St.start w1).alloc (.cells #[.int .i64 num, .slice a xs.length cap] 25)
    go_wp2_with fail
    refine (viewNext_calls _ _ _ _ _ _ _ _ _ _ _ hxl hfl hrl (ix.below s1.below) (jf.below s1.below) (jr.below s1.below)).mono ?_
    rintro e w2 ⟨b, capb, rfl, ho2, hb2⟩
    have s2 := (s1.fresh hb2 ho2 (Nat.le_refl _)).at1
    obtain ⟨c2, _⟩ := s2.cells
    have l2 := s2.lt.2
    have hdec := nextGood num xs failed fresh
    have hyl := nextLen num xs failed fresh
    generalize hnn : nextNum num xs failed fresh = nn at *
    generalize hyy : nextIds num xs failed fresh = ys at *
    generalize hok : nextOk num xs failed fresh = ok at *
    have HD := Lib.hid hdec
    have HE := Lib.hid hnn
    have HF := Lib.hid hyy
    have HG := Lib.hid hok
    have HY := Lib.hid (show ys.length ≤ 1099511627776 by omega)
    clear hdec s1 ho2 hb2 hnn hyy hok hyl
    go_wp2_with fail
    have s3 := s2.alloc (.cells #[.int .i64 nn, .slice b ys.length capb] 25)
    refine (specViewNext_calls _ _ _ _ _ _ _ _ _ _ _ hxl hfl hrl' (ix.below s3.below) (jf.below s3.below) (jr.below s3.below)).mono ?_
    unfold Nexted
    rw [HE.out, HF.out, HG.out]
    rintro e w4 ⟨d, capd, rfl, ho4, hb4⟩
    have s4 := s3.fresh hb4 ho4 (Nat.le_refl _)
    obtain ⟨c6, _⟩ := s4.at1.cells
    have l6 := s4.at1.lt.2
    have HB := Lib.hid (fun W R (k : St w1 W R) => hb1.trans (k.below.mono hb1.size))
    clear s2 s3 c2 ho4 l2 hb1 hb4 hn0 hn1 hby
    have s5 := s4.alloc (.cells #[.int .i64 nn, .slice d ys.length capd] 25)
    have i5 := own_intsR s5.at4.own
    have k5 := own_intsR s5.at1.own
    go_wp2_with fail
    refine (sameView_eq _ _ _ _ _ _ _ HY.out i5 k5).mono ?_
    rintro e w6 ⟨rfl, hb6⟩
    have s6 := s5.call hb6
    obtain ⟨d8, _⟩ := s6.cells
    obtain ⟨d6, _⟩ := s6.at2.cells
    clear s4 s5 i5 k5 hb6 c6 l6
    cases ok with
    | false =>
      go_wp2_with fail
      refine (sameView_eq _ _ _ _ _ _ _ HY.out (own_intsR s6.at4.own) (own_intsR s6.at1.own)).mono ?_
      rintro e w7 ⟨rfl, hb7⟩
      go_wp2_with fail
      go_ret
      exact ⟨rfl, HB.out _ _ (s6.call hb7)⟩
    | true =>
      obtain ⟨rfl, hys, hv1, hv2⟩ := HD.out rfl
      clear HD HE HF HG
      have HYS := Lib.hid hys
      obtain ⟨_, _, _, hnu0, hnu1⟩ := viewOk_ids hv1
      obtain ⟨_, hy1, hy5, _, _⟩ := viewOk_ids hv2
      rw [← hys] at hy1 hy5
      have NO := Lib.hid (fun f t => takes_bad2 (xs := ys) (f := f) (t := t) (show ¬ num + 1 = num by omega))
      have hyl := HY.out
      clear hys hv1 hv2
      have s6 := s6.drop.drop
      clear d8 d6
      go_wp2_with fail
      go_loopw [10] (fun i wr => ∃ k : Nat, k + 1 ≤ ys.length ∧ i = .int .i64 k ∧ St w1 wr [box w2.heap.size #[.int .i64 (num + 1), .slice b ys.length capb] 25, box w1.heap.size #[.int .i64 num, .slice a xs.length cap] 25, row (.slice b ys.length capb) 3 1 ys.length (ys.map (Value.int .i64))]) (fun i _ => ys.length - (intOf i).toNat)
      case atStart => exact ⟨0, hy1, rfl, s6⟩
      case round =>
        clear s6
        obtain ⟨k, hk, rfl, s6⟩ := hrel
        obtain ⟨d6, _⟩ := s6.cells
        by_cases hlt : k + 1 < ys.length
        · have i6 := own_intsR s6.at2.own
          rcases id i6 with rfl | ⟨g, off, rfl, hc⟩
          · simp at hlt
          have hcell0 := hc k (by omega)
          have hcell1 := hc (k + 1) hlt
          simp only [List.getD, List.getElem?_eq_getElem hlt, List.getElem?_eq_getElem (show k < ys.length by omega), Option.getD_some] at hcell0 hcell1
          have i1 : (0 : Int) ≤ (k : Int) := by omega
          have i2 : (k : Int) < (ys.length : Int) := by omega
          have i3 : (0 : Int) ≤ (k : Int) + 1 := by omega
          have i4 : (k : Int) + 1 < (ys.length : Int) := by omega
          have i5 : ((k : Int) + 1).toNat = k + 1 := by omega
          have j6 : IntKind.i64.wrap ((k : Int) + 1) = (k : Int) + 1 := by rw [IntKind.wrap_i64]; omega
          obtain ⟨d3, _⟩ := s6.at1.cells
          have c60 := d6 0
          have c61 := d6 1
          have c30 := d3 0
          simp at c60 c61 c30
          have lt6 := s6.lt.2
          have lt3 := s6.at1.lt.2
          have ltg := lt_of_cell hcell0
          generalize hz0 : ys[k] = y0 at *
          generalize hz1 : ys[k + 1] = y1 at *
          clear hz0 hz1 hc d6 d3
          go_wp2_with fail
          go_region_held3 (fun w' => w'.cell? ⟨w2.heap.size, 0, none⟩ = some (.int .i64 (num + 1)) ∧ w'.cell? ⟨w2.heap.size, 1, none⟩ = some (.slice (some ⟨g, off, none⟩) ys.length capb) ∧ w'.cell? ⟨w1.heap.size, 0, none⟩ = some (.int .i64 num) ∧ w'.cell? ⟨g, off + k, none⟩ = some (.int .i64 y0) ∧ w'.cell? ⟨g, off + (k + 1), none⟩ = some (.int .i64 y1))
            (first | go_keep | assumption | (go_split_ands; exact ⟨e0, e1, e2, e3, e4⟩))
            ((go_at_call 21; refine (viewTakes_calls _ _ _ _ _ _ _ _ hyl (by exact i6)).mono ?_; rw [NO.out]; rintro e w7 ⟨rfl, hb5'⟩; have hb5 := drew_below hb5'; have e0 := (hb5.cell (p := ⟨w2.heap.size, 0, none⟩) lt6).trans c60; have e1 := (hb5.cell (p := ⟨w2.heap.size, 1, none⟩) lt6).trans c61; have e2 := (hb5.cell (p := ⟨w1.heap.size, 0, none⟩) lt3).trans c30; have e3 := (hb5.cell (p := ⟨g, off + k, none⟩) ltg).trans hcell0; have e4 := (hb5.cell (p := ⟨g, off + (k + 1), none⟩) ltg).trans hcell1))
          go_wp2_with fail
          go_roundw
          case rel => exact ⟨k + 1, hlt, by go_num, s6.call hb5⟩
          case measure => simp [intOf]; omega
        · go_wp2_with fail
          go_ret
          exact ⟨rfl, HB.out _ _ s6⟩
  · go_enter Try.func14, Try.ntmps14
    go_wp2_with fail
    go_ret
    exact ⟨rfl, Below.refl _ _⟩

end Go.Proofs.Ytkbckgnkbnakkaa.fnNextTakes
