
/-
  The walk of FnCopiesDone.
-/
import Derived.Test.YtgpnbcdboofikaaC11
import Derived.Test.YtgpnbcdboofikaaC14
import Derived.Test.YtgpnbcdboofikaaSi
namespace Go.Proofs.Ytgpnbcdboofikaa.fnCopiesDone
open Go.RowKit Go.Proofs.Ytgpnbcdboofikaa

set_option maxRecDepth 100000 in
set_option maxHeartbeats 4000000 in
theorem walk (a0 : Option Addr) (len0 cap0 : Nat) (z0 : List Int) (w : World) (w0 : IsRow .u8 w a0 len0 cap0 z0) :
    Calls Try.prog 5 #[.slice a0 len0 cap0] w fun e w' => e = .returned (.bool true) ∧ Below w.heap.size w w' := by
  have hle := w0.le
  have hby := w0.bytes
  clear w0
  by_cases hbig : len0 ≤ 1048576
  · go_enter Try.func5, Try.ntmps5
    go_wp2_with fail
    refine (drawCountCopies_calls _ _ _ _ hle.1 hle.2 hby).mono ?_
    rintro e w1 ⟨view, a, cap, ns, rfl, ⟨hn1, hn5, hcap, hsh⟩, hx, hb1⟩
    have hm : ns.length ≤ 1099511627776 := by omega
    have hsm : Short ns 1099511627776 := fun n hn => Nat.le_trans (hsh n hn) (by omega)
    have HB := Lib.hid (fun W R (k : St w1 W R) => hb1.trans (k.below.mono hb1.size))
    have s1 := (St.start w1).alloc (.cells #[.int .i64 view, .slice a ns.length cap] 25)
    have IM := Lib.hid (fun W (h : NodesAt W a ns) => countCopies_calls view a cap ns W hm hsm h)
    have SP := Lib.hid (fun W (h : NodesAt W a ns) => specCountCopies_calls view a cap ns W hm hcap hsm h)
    have HL := Lib.hid (copies_len (view := view) (ns := ns))
    have HC : Hid (copiesOf view ns ≠ [] → chainOk view ns = true ∧ copiesOf view ns = vec (nd ns 0).us.length (cnt ns)) := Lib.hid (fun h => by
      unfold copiesOf at h ⊢
      split at h
      · rename_i hc; exact ⟨hc, by rw [if_pos hc]⟩
      · exact absurd rfl h)
    have HSM := Lib.hid hsm
    have hxl := HL.out
    unfold MadeInts at IM SP
    generalize copiesOf view ns = xs at *
    have hm2 : xs.length ≤ 1099511627776 := by omega
    clear hby hb1 hsm hsh
    go_wp2_with fail
    refine (IM.out _ (hx.below s1.below)).mono ?_
    rintro e w2 ⟨a2, cap2, rfl, ho2, hb2⟩
    have s2 := s1.fresh hb2 ho2 (Nat.le_refl _)
    obtain ⟨c2, _⟩ := s2.drop.cells
    clear s1 ho2 hb2
    go_wp2_with fail
    refine (SP.out _ (hx.below s2.below)).mono ?_
    rintro e w3 ⟨a3, cap3, rfl, ho3, hb3⟩
    have s3 := s2.fresh hb3 ho3 (Nat.le_refl _)
    clear s2 ho3 hb3 c2 IM SP
    go_wp2_with fail
    refine (sameInts_eq _ _ _ _ _ _ hm2 (own_intsR s3.drop.own) (own_intsR s3.own)).mono ?_
    rintro e w4 ⟨rfl, hb4⟩
    have s4 := s3.call hb4
    clear s3 hb4
    by_cases h0 : xs = []
    · subst h0
      go_wp2_with fail
      refine (sameInts_eq _ _ _ _ _ _ (by simp) (own_intsR s4.drop.own) (own_intsR s4.own)).mono ?_
      rintro e w5 ⟨rfl, hb5⟩
      have s5 := s4.call hb5
      go_wp2_with fail
      go_ret
      exact ⟨rfl, HB.out _ _ s5⟩
    · obtain ⟨hok, hxe⟩ := HC.out h0
      have hlen : 0 < xs.length := List.length_pos_iff.2 h0
      have hl0 : ((xs.length : Int) == 0) = false := by simp; exact h0
      have HE := Lib.hid hxe
      have HK := Lib.hid hok
      clear hxe hok h0 HC
      have XL : Hid (xs.length = (nd ns 0).us.length) := Lib.hid (by rw [HE.out, vec_len])
      have XG : Hid (∀ j, j < xs.length → xs.getD j 0 = (cnt ns j : Int)) := Lib.hid (fun j hj => by rw [HE.out]; exact vec_getD (by rw [← XL.out]; exact hj))
      have hnp : 0 < ns.length := by omega
      have CF := Lib.hid (cnt_full HK.out)
      have TL := Lib.hid (fun W (h : NodesAt W a ns) => lawTailOf_calls view a cap ns W hm hnp h)
      unfold nodeV at TL
      rcases hT : nd ns (ns.length - 1) with ⟨tp, ty, tc, tus, tq⟩
      rw [hT] at TL CF
      dsimp only at TL CF
      clear hT
      have FD := field_log (.int .i64 tp) ty tus.length tc (.int .i64 tq)
      go_wp2_with fail
      go_loopw [6] (fun i wr => ∃ k : Nat, k ≤ xs.length ∧ i = .int .i64 k ∧ St w1 wr [row (.slice a3 xs.length cap3) 3 1 xs.length (xs.map (Value.int .i64)), row (.slice a2 xs.length cap2) 3 1 xs.length (xs.map (Value.int .i64)), box w1.heap.size #[.int .i64 view, .slice a ns.length cap] 25]) (fun i _ => xs.length - (intOf i).toNat)
      case atStart => exact ⟨0, Nat.zero_le _, rfl, s4⟩
      case round =>
        clear s4
        obtain ⟨k, hk, rfl, s5⟩ := hrel
        by_cases hlt : k < xs.length
        · rcases own_intsR s5.drop.own with h | ⟨b, off, rfl, hc⟩
          · rw [h] at hlen; simp at hlen
          have c1 := hc k hlt
          rw [XG.out k hlt] at c1
          have i1 : (0 : Int) ≤ (k : Int) := by omega
          have i2 : (k : Int) < (xs.length : Int) := by omega
          obtain ⟨x5, _⟩ := s5.drop.drop.cells
          have k0 := x5 0
          have k1 := x5 1
          simp at k0 k1
          have hcf := CF.out k
          have g1 := grow_cell k0
          have g2 := grow_cell k1
          have g3 := grow_cell c1
          have HG := Lib.hid (fun x : Grown wr => s5.call (grow_below x))
          have TG := Lib.hid (fun x : Grown wr => TL.out _ (hx.below (HG.out x).below))
          clear hc x5
          by_cases hf : cnt ns k = ns.length
          · have hkl := hcf.1 hf
            rw [hf] at g3 c1
            clear hf hcf
            go_wp2_with fail
            refine wp_region_grow (by kernel_rfl) (by kernel_rfl) ?_
            repeat (go_big_quiet_step (((go_at_call 18; exact Calls.grow_of (TG.out _)))))
            refine wpQuiet_nil ?_
            rintro _ ⟨x, rfl⟩
            have FIN := Lib.hid (HG.out x)
            clear g1 g2 g3 HG TG s5 k0 k1 c1
            go_wp2_with fail
            go_roundw
            case rel => exact ⟨k + 1, hlt, by go_num, FIN.out⟩
            case measure => simp [intOf]; omega
          · have hkl : ¬ k < tus.length := fun h => hf (hcf.2 h)
            have hf' : ((cnt ns k : Int) == (ns.length : Int)) = false := by rw [beq_eq_false_iff_ne]; omega
            generalize cnt ns k = z at *
            clear hf hcf
            go_wp2_with fail
            refine wp_region_grow (by kernel_rfl) (by kernel_rfl) ?_
            repeat (go_big_quiet_step (((go_at_call 18; exact Calls.grow_of (TG.out _)))))
            refine wpQuiet_nil ?_
            rintro _ ⟨x, rfl⟩
            have FIN := Lib.hid (HG.out x)
            clear g1 g2 g3 HG TG s5 k0 k1 c1
            go_wp2_with fail
            go_roundw
            case rel => exact ⟨k + 1, hlt, by go_num, FIN.out⟩
            case measure => simp [intOf]; omega
        · go_wp2_with fail
          go_ret
          exact ⟨rfl, HB.out _ _ s5⟩
  · go_enter Try.func5, Try.ntmps5
    go_wp2_with fail
    go_ret
    exact ⟨rfl, Below.refl _ _⟩

end Go.Proofs.Ytgpnbcdboofikaa.fnCopiesDone
