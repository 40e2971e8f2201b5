
/-
  The walk of FnLogFrom.
-/
import Derived.Test.YtebklbncfcdkmaaDoorYK
import Derived.Test.YtebklbncfcdkmaaDoorYL
import Derived.Test.YtebklbncfcdkmaaDoorSb
import Derived.Test.YtebklbncfcdkmaaDoorOp8
namespace Go.Proofs.YtebklbncfcdkmaaDoor.fnLogFrom
open Go.RowKit Go.Proofs.YtebklbncfcdkmaaDoor

set_option maxRecDepth 100000 in
set_option maxHeartbeats 4000000 in
theorem walk (v0 : Value) (w : World) (hD : Door w) (h0 : IsCodeV w v0) :
    Calls Tryd.prog 13 #[v0] w fun e w' => e = .returned (.bool true) ∧ Below w.heap.size w w' := by
  obtain ⟨a0, len0, cap0, z0, rfl, w0⟩ := h0
  have hle := w0.le
  have hby := w0.bytes
  clear w0
  by_cases hbig : len0 ≤ 1048576
  · go_enter Tryd.func13, Tryd.ntmps13
    go_wp2_with fail
    refine (drawLogFrom_calls _ _ _ _ hle.1 hle.2 hby).mono ?_
    rintro e w1 ⟨S, rfl, hz, hb1⟩
    have D1 := hD.below hb1
    have HD := Lib.hid D1
    have IM := Lib.hid (logFrom_calls S w1 (by omega) D1.max D1.err)
    have SP := Lib.hid (fun W => specLogFrom_calls S W (by omega))
    have HB := Lib.hid (fun W R (k : St w1 W R) => hb1.trans (k.below.mono hb1.size))
    clear hby hb1 hD D1
    go_wp2_with fail
    refine IM.out.mono ?_
    rintro e w2 ⟨v, us, ok, rfl, hf, hul, s2⟩
    go_wp2_with fail
    refine (SP.out _).mono ?_
    rintro e w3 ⟨v', us', ok', rfl, hf', hul', ss⟩
    obtain ⟨rfl, rfl⟩ := hf.eq hf'
    have s3 := s2.join ss
    obtain ⟨a2, cap2, rfl, hx2⟩ := own_cells s3.at1.own
    obtain ⟨a3, cap3, rfl, hx3⟩ := own_cells s3.own
    have FL := Lib.hid hf
    clear hf hf' hul' ss s2
    have hm1 : us.length ≤ 1099511627776 := by omega
    have SL := Lib.hid (fun W (h : Below w3.heap.size w3 W) => sameLog_eq a3 a2 cap3 cap2 us W hm1 (UpdsAt.below hx3 h) (UpdsAt.below hx2 h))
    have SL' := Lib.hid (fun W (h : Below w3.heap.size w3 W) => sameLog_eq a2 a3 cap2 cap3 us W hm1 (UpdsAt.below hx2 h) (UpdsAt.below hx3 h))
    have F3 := Lib.hid (fun W (h : Below w3.heap.size w3 W) => HB.out _ _ (s3.call h))
    have HX2 := Lib.hid hx2
    clear hx2 hx3 s3
    cases ok with
    | false =>
      clear FL HX2
      go_wp2_with fail
      refine (SL'.out _ (Below.refl _ _)).mono ?_
      rintro e w4 ⟨rfl, hb4⟩
      have HB4 := Lib.hid hb4
      clear hb4
      go_wp2_with fail
      refine (SL'.out _ HB4.out).mono ?_
      rintro e w5 ⟨rfl, hb5⟩
      have F := Lib.hid (F3.out _ (HB4.out.trans (hb5.mono HB4.out.size)))
      clear hb5
      go_wp2_with fail
      go_ret
      exact ⟨rfl, F.out⟩
    | true =>
      obtain ⟨hok, htx⟩ := FL.out.1 rfl
      have LV := Lib.hid (fun W (h : Below w3.heap.size w3 W) => logValid_calls a2 cap2 us W hm1 (UpdsAt.below HX2.out h))
      have LT := Lib.hid (fun W (h : Below w3.heap.size w3 W) => logText_calls a2 cap2 us W hm1 (UpdsAt.below HX2.out h))
      rw [hok] at LV
      rw [logText_ok hok, htx, show (⟨S.data.toList.toArray⟩ : ByteArray) = S from ByteArray.ext (by simp)] at LT
      clear FL hok htx
      go_wp2_with fail
      refine (SL'.out _ (Below.refl _ _)).mono ?_
      rintro e w4 ⟨rfl, hb4⟩
      have HB4 := Lib.hid hb4
      clear hb4
      go_wp2_with fail
      refine (LV.out _ HB4.out).mono ?_
      rintro e w5 ⟨rfl, hb5⟩
      have HB5 := Lib.hid (HB4.out.trans (hb5.mono HB4.out.size))
      clear hb5
      go_wp2_with fail
      refine (LT.out _ HB5.out).mono ?_
      rintro e w6 ⟨rfl, hb6⟩
      have F := Lib.hid (F3.out _ (HB5.out.trans (hb6.mono HB5.out.size)))
      clear hb6
      go_wp2_with fail
      go_ret
      exact ⟨rfl, F.out⟩
  · go_enter Tryd.func13, Tryd.ntmps13
    go_wp2_with fail
    go_ret
    exact ⟨rfl, Below.refl _ _⟩
end Go.Proofs.YtebklbncfcdkmaaDoor.fnLogFrom
