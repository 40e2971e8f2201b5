
/-
  The walk of FnSafe.
-/
import Derived.Test.YtgpnbcdboofikaaC11
import Derived.Test.YtgpnbcdboofikaaC9
import Derived.Test.YtgpnbcdboofikaaC14
namespace Go.Proofs.Ytgpnbcdboofikaa.fnSafe
open Go.RowKit Go.Proofs.Ytgpnbcdboofikaa

set_option maxRecDepth 100000 in
set_option maxHeartbeats 4000000 in
theorem walk (a0 : Option Addr) (len0 cap0 : Nat) (z0 : List Int) (w : World) (w0 : IsRow .u8 w a0 len0 cap0 z0) :
    Calls Try.prog 7 #[.slice a0 len0 cap0] w fun e w' => e = .returned (.bool true) ∧ Below w.heap.size w w' := by
  have hle := w0.le
  have hby := w0.bytes
  clear w0
  by_cases hbig : len0 ≤ 1048576
  · go_enter Try.func7, Try.ntmps7
    go_wp2_with fail
    refine (drawCountSafe_calls _ _ _ _ hle.1 hle.2 hby).mono ?_
    rintro e w1 ⟨view, a, cap, ns, fail, rfl, ⟨hn1, hn5, hcap, hsh, hf0, hf1⟩, hx, hb1⟩
    have hm : ns.length ≤ 1099511627776 := by omega
    have hsm : Short ns 1099511627776 := fun n hn => Nat.le_trans (hsh n hn) (by omega)
    have HSH := Lib.hid hsh
    have HB := Lib.hid (fun W R (k : St w1 W R) => hb1.trans (k.below.mono hb1.size))
    have s1 := (St.start w1).alloc (.cells #[.int .i64 view, .slice a ns.length cap] 25)
    have IM := Lib.hid (fun f W (h : NodesAt W a ns) => countSafe_calls view a cap ns f W hm hsm h)
    have SP := Lib.hid (fun f W (h : NodesAt W a ns) => specCountSafe_calls view a cap ns f W hm hcap hsm h)
    have OK := Lib.hid (fun h => safe_ok (view := view) (ns := ns) (fail := fail) h)
    have hbd := safe_bd (view := view) (ns := ns) (fail := fail)
    clear hby hb1 hsm hsh
    go_wp2_with fail
    refine (IM.out _ _ (hx.below s1.below)).mono ?_
    rintro e w2 ⟨rfl, hb2⟩
    have s2 := s1.call hb2
    obtain ⟨c2, _⟩ := s2.cells
    clear s1 hb2
    go_wp2_with fail
    refine (SP.out _ _ (hx.below s2.below)).mono ?_
    rintro e w3 ⟨rfl, hb3⟩
    have s3 := s2.call hb3
    obtain ⟨c3, _⟩ := s3.cells
    clear s2 hb3 c2 SP
    by_cases hz : safeOf view ns fail < 0
    · generalize safeOf view ns fail = z at *
      go_wp2_with fail
      go_ret
      exact ⟨ret_bool (by first | rfl | simp), HB.out _ _ s3⟩
    · obtain ⟨hok, hfa, hfb⟩ := OK.out (by omega)
      have HK := Lib.hid hok
      have M := Lib.hid (safe_mono hok hfa hfb)
      have Z := Lib.hid (safe_zero hok)
      have hbd2 := safe_bd (view := view) (ns := ns) (fail := fail + 1)
      clear hok OK
      generalize hzz : safeOf view ns fail = z at *
      clear hzz
      obtain ⟨b, off, rfl, _, d1, _⟩ := (hx.below s3.below).cells 0 (by omega)
      clear d1
      go_wp2_with fail
      refine (IM.out _ _ (hx.below s3.below)).mono ?_
      rintro e w4 ⟨rfl, hb4⟩
      have s4 := s3.call hb4
      clear s3 hb4 c3
      generalize safeOf view ns (fail + 1) = y at *
      obtain ⟨c4, _⟩ := s4.cells
      have k0 := c4 0
      have k1 := c4 1
      simp at k0 k1
      obtain ⟨b', off', e', _, d1, _⟩ := (hx.below s4.below).cells 0 (by omega)
      cases e'
      rw [Nat.zero_mul, Nat.add_zero] at d1
      generalize (nd ns 0).us.length = l at *
      have g0 := grow_cell k0
      have g1 := grow_cell k1
      have g2 := grow_cell d1
      have HG := Lib.hid (fun x : Grown w4 => s4.call (grow_below x))
      have CS := Lib.hid (fun x : Grown w4 => IM.out 0 _ (hx.below (HG.out x).below))
      rw [Z.out] at CS
      have i0 : (0 : Int) < (ns.length : Int) := by omega
      have hm2 := M.out
      clear c4
      by_cases hy : y = -1
      · subst hy
        clear hm2 M
        go_wp2_with fail
        refine wp_region_grow (by kernel_rfl) (by kernel_rfl) ?_
        repeat (go_big_quiet_step (((go_at_call 25; exact Calls.grow_of (CS.out _)))))
        refine wpQuiet_nil ?_
        rintro _ ⟨x, rfl⟩
        go_wp2_with fail
        go_ret
        exact ⟨ret_bool (by first | rfl | simp), HB.out _ _ (HG.out x)⟩
      · have hy' : (y == -1) = false := by simpa using hy
        have hyz : y ≤ z := by omega
        have hyd : decide (y ≤ z) = true := by simpa using hyz
        clear hm2 M hy
        go_wp2_with fail
        refine wp_region_grow (by kernel_rfl) (by kernel_rfl) ?_
        repeat (go_big_quiet_step (((go_at_call 25; exact Calls.grow_of (CS.out _)))))
        refine wpQuiet_nil ?_
        rintro _ ⟨x, rfl⟩
        go_wp2_with fail
        go_ret
        exact ⟨ret_bool (by first | rfl | simp), HB.out _ _ (HG.out x)⟩
  · go_enter Try.func7, Try.ntmps7
    go_wp2_with fail
    go_ret
    exact ⟨rfl, Below.refl _ _⟩

end Go.Proofs.Ytgpnbcdboofikaa.fnSafe
