
/-
  The walk of FnCopies.
-/
import Derived.Test.YtgpnbcdboofikaaC11
import Derived.Test.YtgpnbcdboofikaaC12
import Derived.Test.YtgpnbcdboofikaaSi
namespace Go.Proofs.Ytgpnbcdboofikaa.fnCopies
open Go.RowKit Go.Proofs.Ytgpnbcdboofikaa

set_option maxRecDepth 100000 in
set_option maxHeartbeats 4000000 in
theorem walk (a0 : Option Addr) (len0 cap0 : Nat) (z0 : List Int) (w : World) (w0 : IsRow .u8 w a0 len0 cap0 z0) :
    Calls Try.prog 3 #[.slice a0 len0 cap0] w fun e w' => e = .returned (.bool true) ∧ Below w.heap.size w w' := by
  have hle := w0.le
  have hby := w0.bytes
  clear w0
  by_cases hbig : len0 ≤ 1048576
  · go_enter Try.func3, Try.ntmps3
    go_wp2_with fail
    refine (drawCountCopies_calls _ _ _ _ hle.1 hle.2 hby).mono ?_
    rintro e w1 ⟨view, a, cap, ns, rfl, ⟨hn1, hn5, hcap, hsh⟩, hx, hb1⟩
    have hm : ns.length ≤ 1099511627776 := by omega
    have hsm : Short ns 1099511627776 := fun n hn => Nat.le_trans (hsh n hn) (by omega)
    have HB := Lib.hid (fun W R (k : St w1 W R) => hb1.trans (k.below.mono hb1.size))
    have s1 := (St.start w1).alloc (.cells #[.int .i64 view, .slice a ns.length cap] 25)
    have IM := Lib.hid (fun W (h : NodesAt W a ns) => countCopies_calls view a cap ns W hm hsm h)
    have SP := Lib.hid (fun W (h : NodesAt W a ns) => specCountCopies_calls view a cap ns W hm hcap hsm h)
    have HL := Lib.hid (copies_len (view := view) (ns := ns))
    have HC : Hid (copiesOf view ns ≠ [] → chainOk view ns = true ∧ copiesOf view ns = vec (nd ns 0).us.length (cnt ns)) := Lib.hid (fun h => by
      unfold copiesOf at h ⊢
      split at h
      · rename_i hc; exact ⟨hc, by rw [if_pos hc]⟩
      · exact absurd rfl h)
    have HSM := Lib.hid hsm
    have hxl := HL.out
    unfold MadeInts at IM SP
    generalize copiesOf view ns = xs at *
    have hm2 : xs.length ≤ 1099511627776 := by omega
    clear hby hb1 hsm hsh
    go_wp2_with fail
    refine (IM.out _ (hx.below s1.below)).mono ?_
    rintro e w2 ⟨a2, cap2, rfl, ho2, hb2⟩
    have s2 := s1.fresh hb2 ho2 (Nat.le_refl _)
    obtain ⟨c2, _⟩ := s2.drop.cells
    clear s1 ho2 hb2
    go_wp2_with fail
    refine (SP.out _ (hx.below s2.below)).mono ?_
    rintro e w3 ⟨a3, cap3, rfl, ho3, hb3⟩
    have s3 := s2.fresh hb3 ho3 (Nat.le_refl _)
    clear s2 ho3 hb3 c2 IM SP
    go_wp2_with fail
    refine (sameInts_eq _ _ _ _ _ _ hm2 (own_intsR s3.drop.own) (own_intsR s3.own)).mono ?_
    rintro e w4 ⟨rfl, hb4⟩
    have s4 := s3.call hb4
    clear s3 hb4
    by_cases h0 : xs = []
    · subst h0
      go_wp2_with fail
      refine (sameInts_eq _ _ _ _ _ _ (by simp) (own_intsR s4.drop.own) (own_intsR s4.own)).mono ?_
      rintro e w5 ⟨rfl, hb5⟩
      have s5 := s4.call hb5
      go_wp2_with fail
      go_ret
      exact ⟨rfl, HB.out _ _ s5⟩
    · obtain ⟨hok, hxe⟩ := HC.out h0
      have hlen : 0 < xs.length := List.length_pos_iff.2 h0
      have hl0 : ((xs.length : Int) == 0) = false := by simp; exact h0
      have HE := Lib.hid hxe
      have HK := Lib.hid hok
      clear hxe hok h0 HC
      have XL : Hid (xs.length = (nd ns 0).us.length) := Lib.hid (by rw [HE.out, vec_len])
      have XG : Hid (∀ j, j < xs.length → xs.getD j 0 = (cnt ns j : Int)) := Lib.hid (fun j hj => by rw [HE.out]; exact vec_getD (by rw [← XL.out]; exact hj))
      go_wp2_with fail
      generalize w3.heap.size = B3 at *
      go_loopw [6] (fun i wr => ∃ k : Nat, 1 ≤ k ∧ k ≤ xs.length ∧ i = .int .i64 k ∧ St w1 wr [row (.slice a3 xs.length cap3) 3 1 xs.length (xs.map (Value.int .i64)), row (.slice a2 xs.length cap2) 3 1 xs.length (xs.map (Value.int .i64)), box w1.heap.size #[.int .i64 view, .slice a ns.length cap] 25]) (fun i _ => xs.length - (intOf i).toNat)
      case atStart => exact ⟨1, Nat.le_refl _, hlen, rfl, s4⟩
      case round =>
        clear s4
        obtain ⟨k, hk1, hk, rfl, s5⟩ := hrel
        rcases own_intsR s5.drop.own with h | ⟨b, off, rfl, hc⟩
        · rw [h] at hlen; simp at hlen
        by_cases hlt : k < xs.length
        · obtain ⟨j, hj⟩ : ∃ j, j = k - 1 := ⟨_, rfl⟩
          have c1 := hc k hlt
          have c0 := hc j (by omega)
          rw [XG.out k hlt] at c1
          rw [XG.out j (by omega)] at c0
          have hle := cnt_anti ns (show j ≤ k by omega)
          have e1 : (k : Int) - 1 = (j : Int) := by omega
          have ew : IntKind.i64.wrap ((k : Int) - 1) = (j : Int) := by rw [IntKind.wrap_i64] <;> omega
          have i1 : (0 : Int) ≤ (k : Int) := by omega
          have i2 : (k : Int) < (xs.length : Int) := by omega
          have i3 : (0 : Int) ≤ (j : Int) := by omega
          have i4 : (j : Int) < (xs.length : Int) := by omega
          generalize cnt ns k = y1 at *
          generalize cnt ns j = y0 at *
          clear hj hc
          go_wp2_with fail
          go_quiet (fail)
          have FIN := Lib.hid (s5.drewN nq)
          clear s5
          go_wp2_with fail
          go_roundw
          case rel => exact ⟨k + 1, by omega, hlt, by go_num, FIN.out⟩
          case measure => simp [intOf]; omega
        · obtain ⟨j, hj⟩ : ∃ j, j = xs.length - 1 := ⟨_, rfl⟩
          have c1 := hc j (by omega)
          have c0 := hc 0 hlen
          rw [XG.out j (by omega)] at c1
          rw [XG.out 0 hlen, Nat.add_zero] at c0
          have hpos := cnt_pos (ns := ns) (j := j) (i := 0) (by omega) (by rw [← XL.out]; omega)
          have hcl := cnt_le ns 0
          obtain ⟨x5, _⟩ := s5.drop.drop.cells
          have k1 := x5 1
          obtain ⟨b', off', rfl, _, d1, _⟩ := (hx.below s5.below).cells 0 (by omega)
          rw [Nat.zero_mul, Nat.add_zero, ← XL.out] at d1
          have e1 : (xs.length : Int) - 1 = (j : Int) := by omega
          have ew : IntKind.i64.wrap ((xs.length : Int) - 1) = (j : Int) := by rw [IntKind.wrap_i64] <;> omega
          have i3 : (0 : Int) ≤ (j : Int) := by omega
          have i4 : (j : Int) < (xs.length : Int) := by omega
          have i5 : (0 : Int) < (xs.length : Int) := by omega
          have i6 : (0 : Int) < (ns.length : Int) := by omega
          simp at k1
          generalize cnt ns j = y1 at *
          generalize cnt ns 0 = y0 at *
          have g1 : decide ((1 : Int) ≤ (y1 : Int)) = true := by simp; omega
          have g2 : decide ((y0 : Int) ≤ (ns.length : Int)) = true := by simp; omega
          clear hj hc x5
          go_wp2_with fail
          go_quiet (fail)
          go_wp2_with fail
          go_ret
          exact ⟨ret_bool (by first | rfl | (simp; done) | (simp; omega)), HB.out _ _ (s5.drewN nq)⟩
  · go_enter Try.func3, Try.ntmps3
    go_wp2_with fail
    go_ret
    exact ⟨rfl, Below.refl _ _⟩

end Go.Proofs.Ytgpnbcdboofikaa.fnCopies
