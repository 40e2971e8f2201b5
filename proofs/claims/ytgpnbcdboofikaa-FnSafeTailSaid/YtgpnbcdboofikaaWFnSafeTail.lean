
/-
  The walk of FnSafeTail.
-/
import Derived.Test.YtgpnbcdboofikaaC11
import Derived.Test.YtgpnbcdboofikaaC9
import Derived.Test.YtgpnbcdboofikaaC14
namespace Go.Proofs.Ytgpnbcdboofikaa.fnSafeTail
open Go.RowKit Go.Proofs.Ytgpnbcdboofikaa

set_option maxRecDepth 100000 in
set_option maxHeartbeats 4000000 in
theorem walk (a0 : Option Addr) (len0 cap0 : Nat) (z0 : List Int) (w : World) (w0 : IsRow .u8 w a0 len0 cap0 z0) :
    Calls Try.prog 8 #[.slice a0 len0 cap0] w fun e w' => e = .returned (.bool true) ∧ Below w.heap.size w w' := by
  have hle := w0.le
  have hby := w0.bytes
  clear w0
  by_cases hbig : len0 ≤ 1048576
  · go_enter Try.func8, Try.ntmps8
    go_wp2_with fail
    refine (drawCountSafe_calls _ _ _ _ hle.1 hle.2 hby).mono ?_
    rintro e w1 ⟨view, a, cap, ns, fail, rfl, ⟨hn1, hn5, hcap, hsh, hf0, hf1⟩, hx, hb1⟩
    have hm : ns.length ≤ 1099511627776 := by omega
    have hsm : Short ns 1099511627776 := fun n hn => Nat.le_trans (hsh n hn) (by omega)
    have HSH := Lib.hid hsh
    have HB := Lib.hid (fun W R (k : St w1 W R) => hb1.trans (k.below.mono hb1.size))
    have s1 := (St.start w1).alloc (.cells #[.int .i64 view, .slice a ns.length cap] 25)
    have IM := Lib.hid (fun f W (h : NodesAt W a ns) => countSafe_calls view a cap ns f W hm hsm h)
    have SP := Lib.hid (fun f W (h : NodesAt W a ns) => specCountSafe_calls view a cap ns f W hm hcap hsm h)
    have OK := Lib.hid (fun h => safe_ok (view := view) (ns := ns) (fail := fail) h)
    have hbd := safe_bd (view := view) (ns := ns) (fail := fail)
    clear hby hb1 hsm hsh
    go_wp2_with fail
    refine (IM.out _ _ (hx.below s1.below)).mono ?_
    rintro e w2 ⟨rfl, hb2⟩
    have s2 := s1.call hb2
    obtain ⟨c2, _⟩ := s2.cells
    clear s1 hb2
    go_wp2_with fail
    refine (SP.out _ _ (hx.below s2.below)).mono ?_
    rintro e w3 ⟨rfl, hb3⟩
    have s3 := s2.call hb3
    obtain ⟨c3, _⟩ := s3.cells
    clear s2 hb3 c2 SP
    by_cases hz : safeOf view ns fail < 0
    · generalize safeOf view ns fail = z at *
      go_wp2_with fail
      go_ret
      exact ⟨ret_bool (by first | rfl | simp), HB.out _ _ s3⟩
    · obtain ⟨hok, hfa, hfb⟩ := OK.out (by omega)
      have HK := Lib.hid hok
      have T := safe_tail hok hfa hfb
      have hnp : 0 < ns.length := by omega
      have TL := Lib.hid (fun W (h : NodesAt W a ns) => lawTailOf_calls view a cap ns W hm hnp h)
      unfold nodeV at TL
      rcases hT : nd ns (ns.length - 1) with ⟨tp, ty, tc, tus, tq⟩
      rw [hT] at TL T
      dsimp only at TL T
      clear hT hok OK
      generalize hzz : safeOf view ns fail = z at *
      clear hzz
      have FD := field_log (.int .i64 tp) ty tus.length tc (.int .i64 tq)
      go_wp2_with fail
      refine (TL.out _ (hx.below s3.below)).mono ?_
      rintro e w4 ⟨rfl, hb4⟩
      have s4 := s3.call hb4
      clear s3 hb4 c3
      go_wp2_with fail
      go_ret
      exact ⟨ret_bool (by first | rfl | (simp; done) | (simp; omega)), HB.out _ _ s4⟩
  · go_enter Try.func8, Try.ntmps8
    go_wp2_with fail
    go_ret
    exact ⟨rfl, Below.refl _ _⟩

end Go.Proofs.Ytgpnbcdboofikaa.fnSafeTail
