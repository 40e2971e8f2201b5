
/-
  The walk of FnLogText.
-/
import Derived.Test.YtebklbncfcdkmaaDoorYK
import Derived.Test.YtebklbncfcdkmaaDoorY8
import Derived.Test.YtebklbncfcdkmaaDoorSb
import Derived.Test.YtebklbncfcdkmaaDoorOp8
namespace Go.Proofs.YtebklbncfcdkmaaDoor.fnLogText
open Go.RowKit Go.Proofs.YtebklbncfcdkmaaDoor

set_option maxRecDepth 100000 in
set_option maxHeartbeats 4000000 in
theorem walk (v0 : Value) (w : World) (hD : Door w) (h0 : IsCodeV w v0) :
    Calls Tryd.prog 11 #[v0] w fun e w' => e = .returned (.bool true) ∧ Below w.heap.size w w' := by
  obtain ⟨a0, len0, cap0, z0, rfl, w0⟩ := h0
  have hle := w0.le
  have hby := w0.bytes
  clear w0
  by_cases hbig : len0 ≤ 1048576
  · go_enter Tryd.func11, Tryd.ntmps11
    go_wp2_with fail
    refine (drawLogText_calls _ _ _ _ hle.1 hle.2 hby).mono ?_
    rintro e w1 ⟨a, cap, us, rfl, h13, hcap, hx, hb1⟩
    have hm : us.length ≤ 1099511627776 := by omega
    have HX := Lib.hid hx
    have HD := Lib.hid (hD.below hb1)
    have HB1 := Lib.hid (fun W (h : Below w1.heap.size w1 W) => hb1.trans (h.mono hb1.size))
    have SP := Lib.hid (fun W (h : UpdsAt W a us) => specLogText_calls a cap us W hm h)
    have IM := Lib.hid (fun W (h : UpdsAt W a us) => logText_calls a cap us W hm h)
    have hlen := logText_length us
    clear hby hx hD hb1
    cases hok : logOk us with
    | false =>
      have HT : Hid (logText us = []) := Lib.hid (logText_bad hok)
      rw [HT.out] at SP IM
      clear hok
      go_wp2_with fail
      refine (IM.out _ HX.out).mono ?_
      rintro e w2 ⟨rfl, hb2⟩
      go_wp2_with fail
      refine (SP.out _ (HX.out.below hb2)).mono ?_
      rintro e w3 ⟨rfl, hb3⟩
      go_wp2_with fail
      go_ret
      exact ⟨rfl, HB1.out _ (hb2.trans (hb3.mono hb2.size))⟩
    | true =>
      have hne : logT us ≠ [] := logT_ne us
      rw [logText_ok hok] at SP IM hlen
      obtain ⟨S, hS⟩ : ∃ S : ByteArray, (⟨(logT us).toArray⟩ : ByteArray) = S := ⟨_, rfl⟩
      have hE : S.toList.isEmpty = false := by
        rw [Lib.toList_data, ← hS]
        cases hl : logT us with
        | nil => exact absurd hl hne
        | cons => rfl
      have hz : S.size ≤ 2097152 := by rw [← hS]; simp [ByteArray.size]; omega
      have HI : Hid (IsLog S.data.toList us) := Lib.hid ⟨hok, by rw [← hS]⟩
      rw [hS] at SP IM
      have LF := Lib.hid (fun W (h : Door W) => logFrom_calls S W hz h.max h.err)
      clear hok hS hne hlen hz
      go_wp2_with fail
      refine (IM.out _ HX.out).mono ?_
      rintro e w2 ⟨rfl, hb2⟩
      go_wp2_with fail
      refine (SP.out _ (HX.out.below hb2)).mono ?_
      rintro e w3 ⟨rfl, hb3⟩
      have HB3 := Lib.hid (hb2.trans (hb3.mono hb2.size))
      clear hb2 hb3
      go_wp2_with fail
      refine (LF.out _ (HD.out.below HB3.out)).mono ?_
      rintro e w4 ⟨v, us', ok, rfl, hf, _, s4⟩
      obtain ⟨rfl, rfl⟩ := hf.eq (.yes HI.out)
      obtain ⟨a4, cap4, rfl, hx4⟩ := own_cells s4.own
      have HB4 := Lib.hid (HB3.out.trans (s4.below.mono HB3.out.size))
      have SL := Lib.hid (sameLog_eq a4 a cap4 cap us' w4 hm hx4 (HX.out.below HB4.out))
      clear s4 hx4 hf
      go_wp2_with fail
      refine SL.out.mono ?_
      rintro e w5 ⟨rfl, hb5⟩
      have F := Lib.hid (HB1.out _ (HB4.out.trans (hb5.mono HB4.out.size)))
      clear hb5
      go_wp2_with fail
      go_ret
      exact ⟨rfl, F.out⟩
  · go_enter Tryd.func11, Tryd.ntmps11
    go_wp2_with fail
    go_ret
    exact ⟨rfl, Below.refl _ _⟩
end Go.Proofs.YtebklbncfcdkmaaDoor.fnLogText
