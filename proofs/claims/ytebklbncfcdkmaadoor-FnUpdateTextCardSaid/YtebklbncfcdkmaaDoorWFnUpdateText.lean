
/-
  The walk of FnUpdateText.
-/
import Derived.Test.YtebklbncfcdkmaaDoorYK
import Derived.Test.YtebklbncfcdkmaaDoorYL
import Derived.Test.YtebklbncfcdkmaaDoorOp8
namespace Go.Proofs.YtebklbncfcdkmaaDoor.fnUpdateText
open Go.RowKit Go.Proofs.YtebklbncfcdkmaaDoor

theorem isLog_one {u : Upd} (h : updOk u = true) : IsLog (updT u) [u] := by
  refine ⟨logOk_good (by simp) (by simp [h]), ?_⟩
  simp [logT, joinT]

set_option maxRecDepth 100000 in
set_option maxHeartbeats 4000000 in
theorem walk (v0 : Value) (w : World) (hD : Door w) (h0 : IsCodeV w v0) :
    Calls Tryd.prog 9 #[v0] w fun e w' => e = .returned (.bool true) ∧ Below w.heap.size w w' := by
  obtain ⟨a0, len0, cap0, z0, rfl, w0⟩ := h0
  have hle := w0.le
  have hby := w0.bytes
  clear w0
  by_cases hbig : len0 ≤ 1048576
  · go_enter Tryd.func9, Tryd.ntmps9
    go_wp2_with fail
    refine (drawUpdateText_calls _ _ _ _ hle.1 hle.2 hby).mono ?_
    rintro e w1 ⟨k, x, rfl, hb1⟩
    have HD := Lib.hid (hD.below hb1)
    have HB := Lib.hid (fun W R (k : St w1 W R) => hb1.trans (k.below.mono hb1.size))
    have s1 := (St.start w1).alloc (.cells #[.int .i64 k, .int .i64 x] 25)
    have SP := Lib.hid (specUpdateText_calls k x)
    have IM := Lib.hid (updateText_calls k x)
    have hlen := updText_length (k, x)
    clear hby hD hb1
    cases hok : updOk (k, x) with
    | false =>
      have HT : Hid (updText (k, x) = []) := Lib.hid (by simp [updText, hok])
      rw [HT.out] at SP IM
      clear hok
      go_wp2_with fail
      refine (IM.out _).mono ?_
      rintro e w2 ⟨rfl, hb2⟩
      have s2 := s1.call hb2
      obtain ⟨c2, _⟩ := s2.cells
      clear s1 hb2
      go_wp2_with fail
      refine (SP.out _).mono ?_
      rintro e w3 ⟨rfl, hb3⟩
      have F := Lib.hid (HB.out _ _ (s2.call hb3))
      clear s2 hb3 c2
      go_wp2_with fail
      go_ret
      exact ⟨rfl, F.out⟩
    | true =>
      rw [show updText (k, x) = updT (k, x) by simp [updText, hok]] at SP IM hlen
      have hne := updT_ne (k, x)
      obtain ⟨S, hS⟩ : ∃ S : ByteArray, (⟨(updT (k, x)).toArray⟩ : ByteArray) = S := ⟨_, rfl⟩
      have hE : S.toList.isEmpty = false := by
        rw [Lib.toList_data, ← hS]
        cases hl : updT (k, x) with
        | nil => exact absurd hl hne
        | cons => rfl
      have hz : S.size ≤ 2097152 := by rw [← hS]; simp [ByteArray.size]; omega
      have HI : Hid (IsLog S.data.toList [(k, x)]) := Lib.hid (by rw [← hS]; exact isLog_one hok)
      rw [hS] at SP IM
      have LF := Lib.hid (fun W (h : Door W) => logFrom_calls S W hz h.max h.err)
      clear hok hS hne hlen hz
      go_wp2_with fail
      refine (IM.out _).mono ?_
      rintro e w2 ⟨rfl, hb2⟩
      have s2 := s1.call hb2
      obtain ⟨c2, _⟩ := s2.cells
      clear s1 hb2
      go_wp2_with fail
      refine (SP.out _).mono ?_
      rintro e w3 ⟨rfl, hb3⟩
      have s3 := s2.call hb3
      clear s2 hb3 c2
      go_wp2_with fail
      refine (LF.out _ (HD.out.below s3.below)).mono ?_
      rintro e w4 ⟨v, us', ok, rfl, hf, _, ss⟩
      obtain ⟨rfl, rfl⟩ := hf.eq (.yes HI.out)
      have s4 := s3.join ss
      obtain ⟨a4, cap4, rfl, _⟩ := own_cells ss.own
      obtain ⟨b, off, rfl, d0, d1⟩ := (show UpdsAt w4 a4 [(k, x)] from own_cellsR ss.own).cells 0 (by simp)
      have x0 := (s4.at1.cells.1 0).trans (show _ = some (Value.int .i64 k) from rfl)
      have x1 := (s4.at1.cells.1 1).trans (show _ = some (Value.int .i64 x) from rfl)
      have F := Lib.hid (HB.out _ _ s4)
      simp only [Nat.zero_mul, Nat.add_zero, List.getElem_cons_zero] at d0 d1
      have FD := Lib.hid (fun n => HB.out _ _ (s4.drewN n))
      clear s3 ss s4 hf
      go_wp2_with fail
      go_quiet (fail)
      go_wp2_with fail
      go_ret
      exact ⟨rfl, FD.out _⟩
  · go_enter Tryd.func9, Tryd.ntmps9
    go_wp2_with fail
    go_ret
    exact ⟨rfl, Below.refl _ _⟩
end Go.Proofs.YtebklbncfcdkmaaDoor.fnUpdateText
