
/-
  The walk of FnLogTextJoin.
-/
import Derived.Test.YtebklbncfcdkmaaDoorY8
import Derived.Test.YtebklbncfcdkmaaDoorY9
import Derived.Test.YtebklbncfcdkmaaDoorSl
import Derived.Test.YtebklbncfcdkmaaDoorGw
import Derived.Test.YtebklbncfcdkmaaDoorY5
import Derived.Test.YtebklbncfcdkmaaDoorOp8
namespace Go.Proofs.YtebklbncfcdkmaaDoor.fnLogTextJoin
open Go.RowKit Go.Proofs.YtebklbncfcdkmaaDoor

theorem ucells_take1 (us : List Upd) (k : Nat) : (ucells us).take (k * 2) = ucells (us.take k) := by
  induction us generalizing k with
  | nil => simp [ucells]
  | cons u r ih =>
    cases k with
    | zero => simp [ucells]
    | succ k =>
      rw [show (k + 1) * 2 = k * 2 + 1 + 1 by omega]
      have := ih k
      simpa [ucells] using this
theorem upds_take1 {w : World} {a : Option Addr} {us : List Upd} (h : UpdsAt w a us) (k : Nat) : UpdsAt w a (us.take k) := by
  unfold UpdsAt
  rw [← ucells_take1]
  exact cells_take h _
set_option maxRecDepth 100000 in
set_option maxHeartbeats 4000000 in
theorem walk (v0 : Value) (w : World) (h0 : IsCodeV w v0) :
    Calls Tryd.prog 5 #[v0] w fun e w' => e = .returned (.bool true) ∧ Below w.heap.size w w' := by
  obtain ⟨a0, len0, cap0, z0, rfl, w0⟩ := h0
  have hle := w0.le
  have hby := w0.bytes
  clear w0
  by_cases hbig : len0 ≤ 1048576
  · go_enter Tryd.func5, Tryd.ntmps5
    go_wp2_with fail
    refine (drawLogText_calls _ _ _ _ hle.1 hle.2 hby).mono ?_
    rintro e w1 ⟨a, cap, us, rfl, h13, hcap, hx, hb1⟩
    have hm : us.length ≤ 1099511627776 := by omega
    have HX := Lib.hid hx
    have SP := Lib.hid (fun W (h : UpdsAt W a us) => specLogText_calls a cap us W hm h)
    have IM := Lib.hid (fun W (h : UpdsAt W a us) => logText_calls a cap us W hm h)
    have IM1 := Lib.hid (fun W (h : UpdsAt W a us) => logText_calls a cap (us.take 1) W (by rw [List.length_take]; omega) (upds_take1 h 1))
    have IM2 := Lib.hid (fun W (h : UpdsAt W a us) => logText_calls (cutAt a cap 1 2) (cap - 1) (us.drop 1) W (by rw [List.length_drop]; omega) (upds_from h cap 1 hcap))
    clear hby hx
    cases hok : logOk us with
    | false =>
      have HT : Hid (logText us = []) := Lib.hid (logText_bad hok)
      rw [HT.out] at SP IM
      clear hok
      go_wp2_with fail
      refine (IM.out _ HX.out).mono ?_
      rintro e w2 ⟨rfl, hb2⟩
      go_wp2_with fail
      refine (SP.out _ (HX.out.below hb2)).mono ?_
      rintro e w3 ⟨rfl, hb3⟩
      go_wp2_with fail
      go_ret
      exact ⟨rfl, hb1.trans ((hb2.trans (hb3.mono hb2.size)).mono hb1.size)⟩
    | true =>
      have hne : logText us ≠ [] := by rw [logText_ok hok]; exact logT_ne us
      by_cases h2 : 2 ≤ us.length
      · obtain ⟨J1, J2⟩ := logText_join hok h2
        have hl := logText_length us
        obtain ⟨u0, hu0⟩ : ∃ u, us.getD 0 (0, 0) = u := ⟨_, rfl⟩
        have hu1 : us[0]'(by omega) = u0 := by rw [← hu0, List.getD_eq_getElem?_getD, List.getElem?_eq_getElem (by omega)]; rfl
        rw [hu0] at J1
        have e1 : (us.take 1).length = 1 := by rw [List.length_take]; omega
        have e2 : (us.drop 1).length = us.length - 1 := by rw [List.length_drop]
        have CC := Lib.hid (fun W (h : UpdsAt W a us) => h.cells 0 (by omega))
        rw [hu1] at CC
        rw [e1] at IM1
        rw [e2] at IM2
        have UT := Lib.hid (updateText_calls u0.1 u0.2)
        rw [show ((u0.1, u0.2) : Upd) = u0 from rfl, ← J1] at UT
        obtain ⟨t, ht⟩ : ∃ t, logText us = t := ⟨_, rfl⟩
        obtain ⟨x, hxx⟩ : ∃ t, logText (us.take 1) = t := ⟨_, rfl⟩
        obtain ⟨y, hy⟩ : ∃ t, logText (us.drop 1) = t := ⟨_, rfl⟩
        rw [ht] at SP IM J2 hl hne
        rw [hxx] at IM1 UT J2
        rw [hy] at IM2 J2
        obtain ⟨x1, hx1⟩ : ∃ t, x ++ [44] = t := ⟨_, rfl⟩
        rw [hx1] at J2
        have l1 : x1.length ≤ t.length := by rw [← J2]; simp
        have cat1 := cat_to (P := Tryd.prog) hx1 (by omega)
        have cat2 := cat_to (P := Tryd.prog) J2 (by omega)
        have hE : t.isEmpty = false := by cases t with | nil => exact absurd rfl hne | cons => rfl
        have n2 : decide ((us.length : Int) < 2) = false := by simp; omega
        have n3 : (0 : Int) < (us.length : Int) := by omega
        clear hne hok ht hxx hy hx1 J1 J2 e1 e2 hu0 hu1 l1 hl
        go_wp2_with fail
        refine (IM.out _ HX.out).mono ?_
        rintro e w2 ⟨rfl, hb2⟩
        go_wp2_with fail
        refine (SP.out _ (HX.out.below hb2)).mono ?_
        rintro e w3 ⟨rfl, hb3⟩
        have hB := hb2.trans (hb3.mono hb2.size)
        have HB := Lib.hid hB
        obtain ⟨b, off, rfl, c0, c1⟩ := CC.out _ (HX.out.below hB)
        simp only [Nat.zero_mul, Nat.add_zero] at c0 c1
        have g0 := grow_cell c0
        have g1 := grow_cell c1
        have GX := Lib.hid (fun x : Grown w3 => (HX.out.below hB).below (grow_below x))
        have L1 := Lib.hid (fun x : Grown w3 => IM1.out _ (GX.out x))
        rw [show cutAt (some ⟨b, off, none⟩) cap 1 2 = some ⟨b, off + 2, none⟩ by rw [cutAt, if_neg (by omega)]; rfl] at IM2
        have L2 := Lib.hid (fun x : Grown w3 => IM2.out _ (GX.out x))
        clear hb2 hb3 hB c0 c1
        go_wp2_with fail
        refine wp_region_grow (by kernel_rfl) (by kernel_rfl) ?_
        repeat (go_big_quiet_step (((first | (go_at_call 20; with_reducible exact Calls.grow_of (L1.out _)) | (go_at_call 20; with_reducible exact Calls.grow_of (L2.out _)) | (go_at_call 16; with_reducible exact Calls.grow_of (UT.out _))))))
        refine wpQuiet_nil ?_
        rintro _ ⟨x, rfl⟩
        go_wp2_with fail
        go_ret
        exact ⟨rfl, hb1.trans ((HB.out.trans ((grow_below x).mono HB.out.size)).mono hb1.size)⟩
      · have n2 : decide ((us.length : Int) < 2) = true := by simp; omega
        obtain ⟨t, ht⟩ : ∃ t, logText us = t := ⟨_, rfl⟩
        rw [ht] at SP IM hne
        have hE : t.isEmpty = false := by cases t with | nil => exact absurd rfl hne | cons => rfl
        clear hok ht hne IM1 IM2 h2
        go_wp2_with fail
        refine (IM.out _ HX.out).mono ?_
        rintro e w2 ⟨rfl, hb2⟩
        go_wp2_with fail
        refine (SP.out _ (HX.out.below hb2)).mono ?_
        rintro e w3 ⟨rfl, hb3⟩
        have HB := Lib.hid (hb2.trans (hb3.mono hb2.size))
        clear hb2 hb3
        go_wp2_with fail
        go_ret
        exact ⟨rfl, hb1.trans (HB.out.mono hb1.size)⟩
  · go_enter Tryd.func5, Tryd.ntmps5
    go_wp2_with fail
    go_ret
    exact ⟨rfl, Below.refl _ _⟩
end Go.Proofs.YtebklbncfcdkmaaDoor.fnLogTextJoin
