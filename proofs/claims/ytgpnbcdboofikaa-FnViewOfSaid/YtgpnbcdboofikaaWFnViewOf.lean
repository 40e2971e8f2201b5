
/-
  The walk of FnViewOf.
-/
import Derived.Test.YtgpnbcdboofikaaC11
import Derived.Test.YtgpnbcdboofikaaC5
import Derived.Test.YtgpnbcdboofikaaS1
import Derived.Test.YtgpnbcdboofikaaC15
namespace Go.Proofs.Ytgpnbcdboofikaa.fnViewOf
open Go.RowKit Go.Proofs.Ytgpnbcdboofikaa

set_option maxRecDepth 100000 in
set_option maxHeartbeats 4000000 in
theorem walk (a0 : Option Addr) (len0 cap0 : Nat) (z0 : List Int) (w : World) (w0 : IsRow .u8 w a0 len0 cap0 z0) :
    Calls Try.prog 6 #[.slice a0 len0 cap0] w fun e w' => e = .returned (.bool true) ∧ Below w.heap.size w w' := by
  have hle := w0.le
  have hby := w0.bytes
  clear w0
  by_cases hbig : len0 ≤ 1048576
  · go_enter Try.func6, Try.ntmps6
    go_wp2_with fail
    refine (drawViewOf_calls _ _ _ _ hle.1 hle.2 hby).mono ?_
    rintro e w1 ⟨view, a, cap, ns, rfl, ⟨hn1, hn5, hcap, hsh⟩, hx, hb1⟩
    have hm : ns.length ≤ 1099511627776 := by omega
    have hsm : Short ns 1099511627776 := fun n hn => Nat.le_trans (hsh n hn) (by omega)
    have HB := Lib.hid (fun W R (k : St w1 W R) => hb1.trans (k.below.mono hb1.size))
    have s1 := (St.start w1).alloc (.cells #[.int .i64 view, .slice a ns.length cap] 25)
    have IM := Lib.hid (fun W (h : NodesAt W a ns) => viewOf_calls view a cap ns W hm hsm h)
    have SP := Lib.hid (fun W (h : NodesAt W a ns) => specViewOf_calls view a cap ns W hm hcap hsm h)
    unfold GaveView at IM SP
    have OK := Lib.hid (fun h => vof_ok (view := view) (ns := ns) h)
    have hil : (vofIds view ns).length ≤ 1099511627776 := by have := vof_len (view := view) (ns := ns); omega
    generalize vofNum view ns = num at *
    generalize vofIds view ns = ids at *
    clear hby hb1 hsm hsh
    go_wp2_with fail
    refine (IM.out _ (hx.below s1.below)).mono ?_
    rintro e w2 ⟨a2, cap2, rfl, ss⟩
    have s2 := s1.join ss
    simp only [List.cons_append, List.nil_append] at s2
    have s3 := s2.alloc (.cells #[.int .i64 num, .slice a2 ids.length cap2] 36)
    obtain ⟨c2, _⟩ := s2.drop.cells
    have l2 := s2.drop.lt.2
    clear s1 s2 ss
    go_wp2_with fail
    refine (SP.out _ (hx.below s3.below)).mono ?_
    rintro e w4 ⟨a5, cap5, rfl, ss⟩
    have s4 := s3.join ss
    simp only [List.cons_append, List.nil_append] at s4
    have s5 := s4.alloc (.cells #[.int .i64 num, .slice a5 ids.length cap5] 36)
    clear s3 ss c2 l2 IM SP
    obtain ⟨c4, _⟩ := s4.drop.cells
    obtain ⟨x4, _⟩ := s4.drop.drop.drop.cells
    have l4 := s4.drop.lt.2
    have l4x := s4.drop.drop.drop.lt.2
    cases hv : chainOk view ns with
    | false =>
      clear hv OK
      go_wp2_with fail
      refine (sameView_eq _ _ _ _ _ _ _ hil (own_intsR s5.drop.drop.drop.own) (own_intsR s5.drop.own)).mono ?_
      rintro e w6 ⟨rfl, hb6⟩
      have s6 := s5.call hb6
      obtain ⟨d6, _⟩ := s6.cells
      obtain ⟨c6, _⟩ := s6.drop.drop.cells
      clear s4 s5 c4 x4 l4 l4x hb6
      go_wp2_with fail
      refine (sameView_eq _ _ _ _ _ _ _ hil (own_intsR s6.drop.drop.drop.own) (own_intsR s6.drop.own)).mono ?_
      rintro e w7 ⟨rfl, hb7⟩
      have s7 := s6.call hb7
      go_wp2_with fail
      go_ret
      exact ⟨rfl, HB.out _ _ s7⟩
    | true =>
      obtain ⟨hnum, hids, hvw⟩ := OK.out hv
      have HN := Lib.hid hnum
      have HI := Lib.hid hids
      have HVW := Lib.hid hvw
      have hil2 : ids.length = ns.length := by rw [hids]; simp
      have HIL := Lib.hid hil2
      have hil3 : ids.length ≤ ns.length := by omega
      have hil4 : ns.length ≤ ids.length := by omega
      clear hv OK hnum hids hvw hil2
      go_wp2_with fail
      refine (sameView_eq _ _ _ _ _ _ _ hil (own_intsR s5.drop.drop.drop.own) (own_intsR s5.drop.own)).mono ?_
      rintro e w6 ⟨rfl, hb6⟩
      have s6 := s5.call hb6
      clear s4 s5 c4 x4 l4 l4x hb6
      go_wp2_with fail
      generalize w4.heap.size = VW at *
      generalize w2.heap.size = VV at *
      go_loopw [8] (fun i wr => ∃ k : Nat, k ≤ ids.length ∧ i = .int .i64 k ∧ St w1 wr [box VW #[.int .i64 num, .slice a5 ids.length cap5] 36, row (.slice a5 ids.length cap5) 3 1 ids.length (ids.map (Value.int .i64)), box VV #[.int .i64 num, .slice a2 ids.length cap2] 36, row (.slice a2 ids.length cap2) 3 1 ids.length (ids.map (Value.int .i64)), box w1.heap.size #[.int .i64 view, .slice a ns.length cap] 25]) (fun i _ => ids.length - (intOf i).toNat)
      case atStart => exact ⟨0, Nat.zero_le _, rfl, s6⟩
      case round =>
        clear s6
        obtain ⟨k, hk, rfl, s7⟩ := hrel
        obtain ⟨c7, _⟩ := s7.drop.drop.cells
        obtain ⟨x7, _⟩ := s7.drop.drop.drop.drop.cells
        have k0 := c7 0
        have k1 := c7 1
        have j0 := x7 0
        have j1 := x7 1
        simp at k0 k1 j0 j1
        clear c7 x7
        by_cases hlt : k < ids.length
        · rcases own_intsR s7.drop.drop.drop.own with h | ⟨b, off, rfl, hc⟩
          · rw [h] at hlt; simp at hlt
          obtain ⟨b', off', rfl, d0, _, _⟩ := (hx.below s7.below).cells k (by omega)
          have e0 := hc k hlt
          have GE : ids.getD k 0 = (nd ns k).id := by rw [HI.out]; exact map_getD (by omega)
          rw [GE] at e0
          have i1 : (0 : Int) ≤ (k : Int) := by omega
          have i2 : (k : Int) < (ids.length : Int) := by omega
          have i3 : (k : Int) < (ns.length : Int) := by omega
          generalize (nd ns k).id = y at *
          clear hc GE
          go_wp2_with fail
          go_quiet (fail)
          have FIN := Lib.hid (s7.drewN nq)
          clear s7
          go_wp2_with fail
          go_roundw
          case rel => exact ⟨k + 1, hlt, by go_num, FIN.out⟩
          case measure => simp [intOf]; omega
        · have VC := Lib.hid (viewValid_calls a2 cap2 num ids wr hil (own_intsR s7.drop.drop.drop.own))
          rw [HVW.out] at VC
          have hnv : (num == view) = true := by rw [HN.out]; simp
          have hlv : ((ids.length : Int) == (ns.length : Int)) = true := by simp; omega
          go_wp2_with fail
          refine VC.out.mono ?_
          rintro e w8 ⟨rfl, hb8⟩
          have s8 := s7.call hb8
          obtain ⟨c8, _⟩ := s8.drop.drop.cells
          obtain ⟨x8, _⟩ := s8.drop.drop.drop.drop.cells
          clear s7 hb8 k0 k1 j0 j1
          go_wp2_with fail
          go_ret
          exact ⟨ret_bool (by first | rfl | (simp; done) | (simp; omega)), HB.out _ _ s8⟩
  · go_enter Try.func6, Try.ntmps6
    go_wp2_with fail
    go_ret
    exact ⟨rfl, Below.refl _ _⟩

end Go.Proofs.Ytgpnbcdboofikaa.fnViewOf
