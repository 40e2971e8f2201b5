
/-
  The walk of FnViewAdd.
-/
import Derived.Test.YtgpnbcdboofikaaC11
import Derived.Test.YtgpnbcdboofikaaC5
import Derived.Test.YtgpnbcdboofikaaS1
import Derived.Test.YtgpnbcdboofikaaC15
import Derived.Test.YtgpnbcdboofikaaC20
import Derived.Test.YtgpnbcdboofikaaMf
import Derived.Test.YtgpnbcdboofikaaV4
import Derived.Test.YtgpnbcdboofikaaPN
namespace Go.Proofs.Ytgpnbcdboofikaa.fnViewAdd
open Go.RowKit Go.Proofs.Ytgpnbcdboofikaa

set_option maxRecDepth 100000 in
set_option maxHeartbeats 4000000 in
theorem walk (a0 : Option Addr) (len0 cap0 : Nat) (z0 : List Int) (w : World) (w0 : IsRow .u8 w a0 len0 cap0 z0) :
    Calls Try.prog 12 #[.slice a0 len0 cap0] w fun e w' => e = .returned (.bool true) ∧ Below w.heap.size w w' := by
  have hle := w0.le
  have hby := w0.bytes
  clear w0
  by_cases hbig : len0 ≤ 1048576
  · go_enter Try.func12, Try.ntmps12
    go_wp2_with fail
    refine (drawViewOf_calls _ _ _ _ hle.1 hle.2 hby).mono ?_
    rintro e w1 ⟨view, a, cap, ns, rfl, ⟨hn1, hn5, hcap, hsh⟩, hx, hb1⟩
    have hm : ns.length ≤ 1099511627776 := by omega
    have hsm : Short ns 1099511627776 := fun n hn => Nat.le_trans (hsh n hn) (by omega)
    have HB := Lib.hid (fun W R (k : St w1 W R) => hb1.trans (k.below.mono hb1.size))
    have s1 := (St.start w1).alloc (.cells #[.int .i64 view, .slice a ns.length cap] 25)
    have IM := Lib.hid (fun W (h : NodesAt W a ns) => viewOf_calls view a cap ns W hm hsm h)
    have SP := Lib.hid (fun W (h : NodesAt W a ns) => specViewOf_calls view a cap ns W hm hcap hsm h)
    unfold GaveView at IM SP
    have CD := Lib.hid (fun W (h : NodesAt W a ns) => chainAdd_calls view a cap ns 99 W hm hsm h)
    have OK := Lib.hid (fun h => vof_ok (view := view) (ns := ns) h)
    have hil : (vofIds view ns).length ≤ 1099511627776 := by have := vof_len (view := view) (ns := ns); omega
    generalize vofNum view ns = num at *
    generalize vofIds view ns = ids at *
    clear hby hb1 hsm hsh
    go_wp2_with fail
    refine (IM.out _ (hx.below s1.below)).mono ?_
    rintro e w2 ⟨a2, cap2, rfl, ss⟩
    have s2 := s1.join ss
    simp only [List.cons_append, List.nil_append] at s2
    have s3 := s2.alloc (.cells #[.int .i64 num, .slice a2 ids.length cap2] 36)
    obtain ⟨c2, _⟩ := s2.drop.cells
    have l2 := s2.drop.lt.2
    clear s1 s2 ss
    go_wp2_with fail
    refine (SP.out _ (hx.below s3.below)).mono ?_
    rintro e w4 ⟨a5, cap5, rfl, ss⟩
    have s4 := s3.join ss
    simp only [List.cons_append, List.nil_append] at s4
    have s5 := s4.alloc (.cells #[.int .i64 num, .slice a5 ids.length cap5] 36)
    clear s3 ss c2 l2 IM SP
    obtain ⟨c4, _⟩ := s4.drop.cells
    obtain ⟨x4, _⟩ := s4.drop.drop.drop.cells
    have l4 := s4.drop.lt.2
    have l4x := s4.drop.drop.drop.lt.2
    cases hv : chainOk view ns with
    | false =>
      clear hv OK
      go_wp2_with fail
      refine (sameView_eq _ _ _ _ _ _ _ hil (own_intsR s5.drop.drop.drop.own) (own_intsR s5.drop.own)).mono ?_
      rintro e w6 ⟨rfl, hb6⟩
      have s6 := s5.call hb6
      obtain ⟨d6, _⟩ := s6.cells
      obtain ⟨c6, _⟩ := s6.drop.drop.cells
      clear s4 s5 c4 x4 l4 l4x hb6
      go_wp2_with fail
      refine (sameView_eq _ _ _ _ _ _ _ hil (own_intsR s6.drop.drop.drop.own) (own_intsR s6.drop.own)).mono ?_
      rintro e w7 ⟨rfl, hb7⟩
      have s7 := s6.call hb7
      go_wp2_with fail
      go_ret
      exact ⟨rfl, HB.out _ _ s7⟩
    | true =>
      obtain ⟨hnum, hids, hvw⟩ := OK.out hv
      have hil2 : ids.length = ns.length := by rw [hids]; simp
      have DN := Lib.hid (fun (ms : List Nd) (h1 : addOk view ns 99 = true) (h2 : keys ms = addKeys view ns 99) =>
        show chainOk (view + 1) ms = true ∧ vofNum (view + 1) ms = view + 1 ∧ vofIds (view + 1) ms = nextIds num ids [] [99] ∧ nextOk num ids [] [99] = true ∧ nextNum num ids [] [99] = view + 1 ∧ addNum view ns 99 = view + 1 from by
          rw [hnum, hids]; exact add_next hv h1 h2)
      have hlen : (nextIds num ids [] [99]).length ≤ 1099511627776 := by have := nextLen num ids [] [99]; simp at this; omega
      have HLEN := Lib.hid hlen
      have HIL := Lib.hid hil
      clear hv OK hnum hids hvw hil2 hlen
      go_wp2_with fail
      refine (sameView_eq _ _ _ _ _ _ _ HIL.out (own_intsR s5.drop.drop.drop.own) (own_intsR s5.drop.own)).mono ?_
      rintro e w6 ⟨rfl, hb6⟩
      have s6 := s5.call hb6
      clear s4 s5 c4 x4 l4 l4x hb6
      have CD2 := Lib.hid (CD.out w6 (hx.below s6.below))
      unfold GaveChain at CD2
      generalize addOk view ns 99 = ok at *
      generalize addNum view ns 99 = dnum at *
      generalize addKeys view ns 99 = ks at *
      obtain ⟨k6, _⟩ := s6.drop.drop.drop.drop.cells
      clear CD hx
      go_wp2_with fail
      generalize w4.heap.size = VW at *
      generalize w2.heap.size = VV at *
      generalize w1.heap.size = V at *
      refine CD2.out.mono ?_
      rintro e w8 ⟨a6, cap6, ms, rfl, hk, k8⟩
      have s8 := s6.join k8
      simp only [List.cons_append, List.nil_append] at s8
      have s9 := s8.alloc (.cells #[.int .i64 dnum, .slice a6 ms.length cap6] 25)
      have hn9 := nodes_of s9.drop (by intro r hr; simp [hr])
      clear s6 k8 k6 CD2
      cases ok with
      | false =>
        go_wp2_with fail
        go_ret
        exact ⟨ret_bool (by first | rfl | simp), HB.out _ _ s9⟩
      | true =>
        obtain ⟨D1, D2, D3, D4, D5, D6⟩ := DN.out ms rfl hk
        obtain ⟨ml, msh⟩ := chain_short D1
        have VO := Lib.hid (fun W (h : NodesAt W a6 ms) => viewOf_calls (view + 1) a6 cap6 ms W (by omega) (fun n hn => Nat.le_trans (msh n hn) (by omega)) h)
        unfold GaveView at VO
        rw [D1, D2, D3] at VO
        have VN := Lib.hid (fun W a1 cap1 a3 cap3 h1 h2 h3 => viewNext_calls a2 a1 a3 cap2 cap1 cap3 num ids [] [99] W HIL.out (by simp) (by simp) h1 h2 h3)
        unfold Nexted at VN
        rw [D4, D5] at VN
        generalize nextIds num ids [] [99] = ids2 at *
        clear D1 D2 D3 D4 D5 DN msh ml
        subst D6
        go_wp2_with fail
        refine (VO.out _ hn9).mono ?_
        rintro e w11 ⟨a8, cap8, rfl, ss⟩
        have s11 := s9.join ss
        simp only [List.cons_append, List.nil_append] at s11
        have s12 := s11.alloc (.cells #[.int .i64 (view + 1), .slice a8 ids2.length cap8] 36)
        have v0 := s11.boxIn (V := VV) (cs := #[.int .i64 num, .slice a2 ids.length cap2]) (t := 36) (by simp) 0 rfl
        have v1 := s11.boxIn (V := VV) (cs := #[.int .i64 num, .slice a2 ids.length cap2]) (t := 36) (by simp) 1 rfl
        have lv := lt_of_cell v0
        clear s8 s9 hn9 ss VO
        have s13 := s12.allocAt (.cells #[] 3) (w11.heap.size + 1) (by simp)
        have s14 := s13.allocAt (.cells #[.int .i64 99] 3) (w11.heap.size + 1 + 1) (by simp)
        clear s11 s12 s13
        go_wp2_with fail
        refine (VN.out _ _ _ _ _ (s14.intsIn (a := a2) (n := ids.length) (cap := cap2) (xs := ids) (by simp) rfl) (.inl rfl) (s14.oneInt (b := w11.heap.size + 1 + 1) (t := 3) (by simp))).mono ?_
        rintro e w15 ⟨a9, cap9, rfl, ho9, hb9⟩
        have s15 := s14.fresh hb9 ho9 (Nat.le_refl _)
        have s16 := s15.alloc (.cells #[.int .i64 (view + 1), .slice a9 ids2.length cap9] 36)
        have y0 := s15.boxIn (V := w11.heap.size) (cs := #[.int .i64 (view + 1), .slice a8 ids2.length cap8]) (t := 36) (by simp) 0 rfl
        have y1 := s15.boxIn (V := w11.heap.size) (cs := #[.int .i64 (view + 1), .slice a8 ids2.length cap8]) (t := 36) (by simp) 1 rfl
        have ly := lt_of_cell y0
        have I8 := s16.intsIn (a := a8) (n := ids2.length) (cap := cap8) (xs := ids2) (by simp) rfl
        have I9 := s16.intsIn (a := a9) (n := ids2.length) (cap := cap9) (xs := ids2) (by simp) rfl
        have HF := Lib.hid (fun W hb => HB.out W _ (s16.call hb))
        generalize w11.heap.size = VY at *
        clear s14 s15 s16 ho9 hb9 v0 v1 lv
        go_wp2_with fail
        refine (sameView_eq _ _ _ _ _ _ _ HLEN.out I8 I9).mono ?_
        rintro e w' ⟨rfl, hb⟩
        have HFF := Lib.hid (HF.out _ hb)
        clear hb y0 y1
        go_wp2_with fail
        go_ret
        exact ⟨ret_bool (by first | rfl | simp), HFF.out⟩
  · go_enter Try.func12, Try.ntmps12
    go_wp2_with fail
    go_ret
    exact ⟨rfl, Below.refl _ _⟩

end Go.Proofs.Ytgpnbcdboofikaa.fnViewAdd
