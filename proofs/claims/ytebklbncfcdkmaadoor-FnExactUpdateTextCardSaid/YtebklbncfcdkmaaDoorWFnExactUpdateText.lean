
/-
  The walk of FnExactUpdateText.
-/
import Derived.Test.YtebklbncfcdkmaaDoorY2
import Derived.Test.YtebklbncfcdkmaaDoorE3
import Derived.Test.YtebklbncfcdkmaaDoorOp7
namespace Go.Proofs.YtebklbncfcdkmaaDoor.fnExactUpdateText
open Go.RowKit Go.Proofs.YtebklbncfcdkmaaDoor

set_option maxRecDepth 100000 in
set_option maxHeartbeats 2000000 in
theorem walk (v0 : Value) (w : World) (h0 : IsUpdV v0) :
    Calls Tryd.prog 3 #[v0] w fun e w' => e = .returned (.bool true) ∧ Below w.heap.size w w' := by
  obtain ⟨k, x, rfl⟩ := h0
  have s0 := (St.start w).alloc (.cells #[.int .i64 k, .int .i64 x] 23)
  obtain ⟨c0, _⟩ := s0.cells
  have SP := Lib.hid (specUpdateText_calls k x)
  have IM := Lib.hid (updateText_calls k x)
  generalize updText (k, x) = t at *
  go_enter Tryd.func3, Tryd.ntmps3
  go_wp2_with fail
  refine (toUpdate_calls k x _).mono ?_
  rintro e w1 ⟨rfl, hb1⟩
  have s1 := s0.call hb1
  clear s0 c0
  go_wp2_with fail
  refine (SP.out _).mono ?_
  rintro e w2 ⟨rfl, hb2⟩
  have s2 := s1.call hb2
  obtain ⟨c2, _⟩ := s2.cells
  clear s1
  go_wp2_with fail
  refine (toUpdate_calls k x _).mono ?_
  rintro e w3 ⟨rfl, hb3⟩
  have s3 := s2.call hb3
  clear s2 c2
  go_wp2_with fail
  refine (IM.out _).mono ?_
  rintro e w4 ⟨rfl, hb4⟩
  have s4 := s3.call hb4
  clear s3
  go_wp2_with fail
  go_ret
  exact ⟨rfl, s4.below⟩
end Go.Proofs.YtebklbncfcdkmaaDoor.fnExactUpdateText
