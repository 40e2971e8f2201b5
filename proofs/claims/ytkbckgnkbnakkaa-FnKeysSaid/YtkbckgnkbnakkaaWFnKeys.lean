/-
  The walk of FnKeys.
-/
import Derived.Test.YtkbckgnkbnakkaaD5
import Derived.Test.YtkbckgnkbnakkaaU3
import Derived.Test.YtkbckgnkbnakkaaS1
import Derived.Deep.RegionHeld3
namespace Go.Proofs.Ytkbckgnkbnakkaa.fnKeys
open Go.RowKit Go.Proofs.Ytkbckgnkbnakkaa

theorem counts_good {us : List Upd} (h : countsOf us ≠ []) : logOk us = true := by
  unfold countsOf at h
  by_cases hl : logOk us = true
  · exact hl
  · rw [if_neg hl] at h; exact absurd rfl h
theorem take_sum (l : List Int) (k : Nat) (hk : k < l.length) : (l.take (k + 1)).sum = (l.take k).sum + l[k] := by
  rw [List.take_succ_eq_append_getElem hk, List.sum_append, List.sum_cons, List.sum_nil]; omega

set_option maxHeartbeats 2000000 in
theorem walk (a0 : Option Addr) (len0 cap0 : Nat) (z0 : List Int) (w : World) (w0 : IsRow .u8 w a0 len0 cap0 z0) :
    Calls Try.prog 9 #[.slice a0 len0 cap0] w fun e w' => e = .returned (.bool true) ∧ Below w.heap.size w w' := by
  have hle := w0.le
  have hby := w0.bytes
  clear w0
  by_cases hbig : len0 ≤ 1048576
  · go_enter Try.func9, Try.ntmps9
    go_wp2_with fail
    refine (drawCountKeys_calls _ _ _ _ hle.1 hle.2 hby).mono ?_
    rintro e w1 ⟨a, cap, us, rfl, hl, hin, hu, hb1⟩
    have hul : us.length ≤ 1099511627776 := by omega
    have HB := Lib.hid (fun W R (k : St w1 W R) => hb1.trans (k.below.mono hb1.size))
    clear hin hb1 hby
    go_wp2_with fail
    refine (countKeys_calls _ _ _ _ hul hu).mono ?_
    rintro e w2 ⟨b, capb, rfl, ho2, hb2⟩
    have s2 := (St.start w1).fresh hb2 ho2 (Nat.le_refl _)
    clear ho2 hb2
    go_wp2_with fail
    refine (specCountKeys_calls _ _ _ _ hul (hu.below s2.below)).mono ?_
    rintro e w3 ⟨c, capc, rfl, ho3, hb3⟩
    have s3 := s2.fresh hb3 ho3 (Nat.le_refl _)
    have hyl : (countsOf us).length ≤ 5 := by unfold countsOf; split <;> simp [countsTo_len]
    have hyl' : (countsOf us).length ≤ 1099511627776 := by omega
    have i3 := own_intsR s3.own
    have j3 := own_intsR s3.at1.own
    clear s2 ho3 hb3
    have hgood := @counts_good us
    have hct : logOk us = true → countsOf us = countsTo us us.length := fun h => by rw [countsOf, if_pos h]
    generalize hys : countsOf us = ys at *
    have HG := Lib.hid hgood
    have HCT := Lib.hid hct
    clear hys hgood hct
    go_wp2_with fail
    refine (sameInts_eq _ _ _ _ _ _ hyl' j3 i3).mono ?_
    rintro e w4 ⟨rfl, hb4⟩
    have s4 := s3.call hb4
    clear s3 hb4 i3 j3
    by_cases h0 : ys = []
    · subst h0
      go_wp2_with fail
      refine (sameInts_eq _ _ _ _ _ _ hyl' (own_intsR s4.at1.own) (own_intsR s4.own)).mono ?_
      rintro e w5 ⟨rfl, hb5⟩
      go_wp2_with fail
      go_ret
      exact ⟨rfl, HB.out _ _ (s4.call hb5)⟩
    · have hok := HG.out h0
      have hys := HCT.out hok
      have hl5 : ys.length = 5 := by rw [hys, countsTo_len]
      obtain ⟨hl12, hall⟩ := logOk_all hok
      have hsum : ys.sum = us.length := by rw [hys]; exact counts_sum us hall us.length (Nat.le_refl _)
      have hat : ∀ j : Nat, (hj : j < 5) → ys[j]? = some ((keysOf us j).length : Int) := fun j hj => by
        rw [hys, countsTo_at us us.length j hj, keysOf, if_pos hok]
      have HAT := Lib.hid hat
      have HSUM := Lib.hid hsum
      have HL := Lib.hid hl5
      have e1 : ((ys.length : Int) == 0) = false := by rw [beq_eq_false_iff_ne]; omega
      have e2 : ((ys.length : Int) == 5) = true := by rw [beq_iff_eq]; omega
      have l1 : 5 ≤ ys.length := by omega
      have l2 : ys.length ≤ 5 := by omega
      clear hys hall hsum hat hl5 HG HCT h0 hyl hyl'
      go_wp2_with fail
      go_loopw [6, 7] (fun n i wr => ∃ k : Nat, k ≤ ys.length ∧ i = .int .i64 k ∧ n = .int .i64 (ys.take k).sum ∧ 0 ≤ (ys.take k).sum ∧ (ys.take k).sum ≤ 100 * k ∧ St w1 wr [row (.slice c ys.length capc) 3 1 ys.length (ys.map (Value.int .i64)), row (.slice b ys.length capb) 3 1 ys.length (ys.map (Value.int .i64))]) (fun _ i _ => ys.length - (intOf i).toNat)
      case atStart => exact ⟨0, Nat.zero_le _, rfl, rfl, by simp, by simp, s4⟩
      case round =>
        clear s4
        obtain ⟨k, hk, rfl, rfl, hs0, hs1, s4⟩ := hrel
        by_cases hlt : k < ys.length
        · have ht := take_sum ys k hlt
          have hy := HAT.out k (by omega)
          rw [List.getElem?_eq_getElem hlt] at hy
          have hy := Option.some.inj hy
          have hcell := own_intsR s4.at1.own
          rcases hcell with h | ⟨gb, ob, rfl, hc⟩
          · rw [h] at hlt; simp at hlt
          have hc := hc k hlt
          simp only [List.getD, List.getElem?_eq_getElem hlt, Option.getD_some] at hc
          rw [hy] at hc ht
          have hkl : (keysOf us k).length ≤ 12 := by
            rw [keysOf, if_pos hok]
            exact Nat.le_trans (keysTo_le _ _ _) hl12
          have HT := Lib.hid ht
          clear hy ht
          have i1 : (0 : Int) ≤ (k : Int) := by omega
          have i2 : (k : Int) < (ys.length : Int) := by omega
          have lgb := lt_of_cell hc
          have K := Lib.hid (fun W (h : UpdsAt W a us) => logKey_calls a cap us k W hul h)
          generalize keysOf us k = zs at *
          generalize (ys.take k).sum = n at *
          have hs2 : n ≤ 500 := by omega
          go_wp2_with fail
          have hu4 := hu.below s4.below
          go_region_held3 (fun w' => w'.cell? ⟨gb, ob + k, none⟩ = some (.int .i64 zs.length))
            (first | go_keep | assumption)
            ((go_at_call 28; refine (K.out _ (by exact hu4)).mono ?_; rintro e w5 ⟨a5, cap5, rfl, ho5, hb5'⟩; have hb5 := drew_below hb5'; have e5 := (hb5.cell (p := ⟨gb, ob + k, none⟩) lgb).trans hc))
          go_wp2_with fail
          go_roundw
          case rel => exact ⟨k + 1, hlt, by go_num, by rw [HT.out], by rw [HT.out]; omega, by rw [HT.out]; omega, s4.call hb5⟩
          case measure => simp [intOf]; omega
        · have et : ys.take k = ys := List.take_of_length_le (by omega)
          rw [et] at hs0 hs1
          rw [et, HSUM.out]
          go_wp2_with fail
          go_ret
          exact ⟨rfl, HB.out _ _ s4⟩
  · go_enter Try.func9, Try.ntmps9
    go_wp2_with fail
    go_ret
    exact ⟨rfl, Below.refl _ _⟩

end Go.Proofs.Ytkbckgnkbnakkaa.fnKeys
