
/-
  The walk of FnCopiesLag.
-/
import Derived.Test.YtgpnbcdboofikaaC11
import Derived.Test.YtgpnbcdboofikaaC12
import Derived.Test.YtgpnbcdboofikaaSi
namespace Go.Proofs.Ytgpnbcdboofikaa.fnCopiesLag
open Go.RowKit Go.Proofs.Ytgpnbcdboofikaa

set_option maxRecDepth 100000 in
set_option maxHeartbeats 4000000 in
theorem walk (a0 : Option Addr) (len0 cap0 : Nat) (z0 : List Int) (w : World) (w0 : IsRow .u8 w a0 len0 cap0 z0) :
    Calls Try.prog 4 #[.slice a0 len0 cap0] w fun e w' => e = .returned (.bool true) ∧ Below w.heap.size w w' := by
  have hle := w0.le
  have hby := w0.bytes
  clear w0
  by_cases hbig : len0 ≤ 1048576
  · go_enter Try.func4, Try.ntmps4
    go_wp2_with fail
    refine (drawCountCopies_calls _ _ _ _ hle.1 hle.2 hby).mono ?_
    rintro e w1 ⟨view, a, cap, ns, rfl, ⟨hn1, hn5, hcap, hsh⟩, hx, hb1⟩
    have hm : ns.length ≤ 1099511627776 := by omega
    have hsm : Short ns 1099511627776 := fun n hn => Nat.le_trans (hsh n hn) (by omega)
    have HB := Lib.hid (fun W R (k : St w1 W R) => hb1.trans (k.below.mono hb1.size))
    have s1 := (St.start w1).alloc (.cells #[.int .i64 view, .slice a ns.length cap] 25)
    have IM := Lib.hid (fun W (h : NodesAt W a ns) => countCopies_calls view a cap ns W hm hsm h)
    have SP := Lib.hid (fun W (h : NodesAt W a ns) => specCountCopies_calls view a cap ns W hm hcap hsm h)
    have HL := Lib.hid (copies_len (view := view) (ns := ns))
    have HC : Hid (copiesOf view ns ≠ [] → chainOk view ns = true ∧ copiesOf view ns = vec (nd ns 0).us.length (cnt ns)) := Lib.hid (fun h => by
      unfold copiesOf at h ⊢
      split at h
      · rename_i hc; exact ⟨hc, by rw [if_pos hc]⟩
      · exact absurd rfl h)
    have HSM := Lib.hid hsm
    have hxl := HL.out
    unfold MadeInts at IM SP
    generalize copiesOf view ns = xs at *
    have hm2 : xs.length ≤ 1099511627776 := by omega
    clear hby hb1 hsm hsh
    go_wp2_with fail
    refine (IM.out _ (hx.below s1.below)).mono ?_
    rintro e w2 ⟨a2, cap2, rfl, ho2, hb2⟩
    have s2 := s1.fresh hb2 ho2 (Nat.le_refl _)
    obtain ⟨c2, _⟩ := s2.drop.cells
    clear s1 ho2 hb2
    go_wp2_with fail
    refine (SP.out _ (hx.below s2.below)).mono ?_
    rintro e w3 ⟨a3, cap3, rfl, ho3, hb3⟩
    have s3 := s2.fresh hb3 ho3 (Nat.le_refl _)
    clear s2 ho3 hb3 c2 IM SP
    go_wp2_with fail
    refine (sameInts_eq _ _ _ _ _ _ hm2 (own_intsR s3.drop.own) (own_intsR s3.own)).mono ?_
    rintro e w4 ⟨rfl, hb4⟩
    have s4 := s3.call hb4
    clear s3 hb4
    by_cases h0 : xs = []
    · subst h0
      go_wp2_with fail
      refine (sameInts_eq _ _ _ _ _ _ (by simp) (own_intsR s4.drop.own) (own_intsR s4.own)).mono ?_
      rintro e w5 ⟨rfl, hb5⟩
      have s5 := s4.call hb5
      go_wp2_with fail
      go_ret
      exact ⟨rfl, HB.out _ _ s5⟩
    · obtain ⟨hok, hxe⟩ := HC.out h0
      have hlen : 0 < xs.length := List.length_pos_iff.2 h0
      have hl0 : ((xs.length : Int) == 0) = false := by simp; exact h0
      have HE := Lib.hid hxe
      have HK := Lib.hid hok
      clear hxe hok h0 HC
      have XL : Hid (xs.length = (nd ns 0).us.length) := Lib.hid (by rw [HE.out, vec_len])
      have XG : Hid (∀ j, j < xs.length → xs.getD j 0 = (cnt ns j : Int)) := Lib.hid (fun j hj => by rw [HE.out]; exact vec_getD (by rw [← XL.out]; exact hj))
      have XB : Hid (∀ k, k ≤ xs.length → 0 ≤ (xs.take k).sum ∧ (xs.take k).sum ≤ 60) := Lib.hid (fun k hk => by
        have h1 := sum_bd (xs.take k) 5 (fun x hx => by
          have h2 := List.mem_of_mem_take hx
          rw [HE.out] at h2
          exact vec_mem (fun j => Nat.le_trans (cnt_le ns j) hn5) x h2)
        simp at h1
        omega)
      have VM : ∀ x ∈ xs, 0 ≤ x ∧ x ≤ 5 := by
        rw [HE.out]
        exact vec_mem (m := 5) (fun j => Nat.le_trans (cnt_le ns j) hn5)
      have XE : Hid (∀ k, (hk : k < xs.length) → 0 ≤ xs[k] ∧ xs[k] ≤ 5) := Lib.hid (fun k hk => VM _ (List.getElem_mem hk))
      clear VM
      have XS : Hid (xs.sum = lens ns) := Lib.hid (by
        rw [HE.out]
        refine copies_sum _ ns (fun n hn => ?_)
        obtain ⟨i, hi, rfl⟩ := List.getElem_of_mem hn
        have := (chain_logs HK.out i hi).1
        rw [nd_eq hi] at this
        exact this)
      have LB : Hid (∀ k, k < ns.length → (nd ns k).us.length ≤ 12) := Lib.hid (fun k hk => (chain_logs HK.out k hk).2)
      have hs60 := XB.out xs.length (Nat.le_refl _)
      rw [List.take_length] at hs60
      go_wp2_with fail
      go_loop [6, 7] (fun n i => ∃ k : Nat, k ≤ xs.length ∧ i = .int .i64 k ∧ n = .int .i64 (xs.take k).sum) (fun _ i => xs.length - (intOf i).toNat)
      case atStart => exact ⟨0, Nat.zero_le _, rfl, rfl⟩
      case round =>
        obtain ⟨k, hk, rfl, rfl⟩ := hrel
        have b0 := XB.out k hk
        by_cases hlt : k < xs.length
        · rcases own_intsR s4.drop.own with h | ⟨b, off, rfl, hc⟩
          · rw [h] at hlen; simp at hlen
          have c1 := hc k hlt
          simp only [List.getD, List.getElem?_eq_getElem hlt, Option.getD_some] at c1
          have SN := Lib.hid (sum_take hlt)
          have bk := XE.out k hlt
          have i1 : (0 : Int) ≤ (k : Int) := by omega
          have i2 : (k : Int) < (xs.length : Int) := by omega
          generalize xs[k] = y at *
          generalize (xs.take k).sum = z at *
          clear hc
          go_wp2_with fail
          go_round
          case rel => exact ⟨k + 1, hlt, by go_num, by rw [SN.out]⟩
          case measure => simp [intOf]; omega
        · rw [List.take_of_length_le (by omega)] at *
          have LE : Hid (lens ns = lens (ns.take ns.length)) := Lib.hid (by rw [List.take_length])
          generalize hsum : xs.sum = T at *
          clear hsum
          go_wp2_with fail
          go_loop [6, 8] (fun n i => ∃ j : Nat, j ≤ ns.length ∧ i = .int .i64 j ∧ n = .int .i64 (T - lens (ns.take j)) ∧ 0 ≤ lens (ns.take j) ∧ lens (ns.take j) ≤ 12 * j) (fun _ i => ns.length - (intOf i).toNat)
          case atStart => exact ⟨0, Nat.zero_le _, rfl, by simp [lens], by simp [lens], by simp [lens]⟩
          case round =>
            obtain ⟨j, hj, rfl, rfl, l0, l1⟩ := hrel
            obtain ⟨x5, _⟩ := s4.drop.drop.cells
            have k1 := x5 1
            simp at k1
            clear x5
            by_cases hlt2 : j < ns.length
            · obtain ⟨b', off', rfl, _, d1, _⟩ := (hx.below s4.below).cells j hlt2
              have SN := Lib.hid (lens_take hlt2)
              have bl := LB.out j hlt2
              have j1 : (0 : Int) ≤ (j : Int) := by omega
              have j2 : (j : Int) < (ns.length : Int) := by omega
              generalize (nd ns j).us.length = l at *
              generalize lens (ns.take j) = z at *
              go_wp2_with fail
              go_round
              case rel => exact ⟨j + 1, hlt2, by go_num, by rw [SN.out, Int.sub_sub], by rw [SN.out]; omega, by rw [SN.out]; omega⟩
              case measure => simp [intOf]; omega
            · have ez : T - lens (ns.take j) = 0 := by rw [show j = ns.length by omega, ← LE.out, XS.out]; omega
              have EZ := Lib.hid ez
              clear ez
              generalize T - lens (ns.take j) = z at *
              go_wp2_with fail
              go_ret
              exact ⟨ret_bool (by rw [EZ.out]; rfl), HB.out _ _ s4⟩
  · go_enter Try.func4, Try.ntmps4
    go_wp2_with fail
    go_ret
    exact ⟨rfl, Below.refl _ _⟩

end Go.Proofs.Ytgpnbcdboofikaa.fnCopiesLag
