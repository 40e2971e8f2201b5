
/-
  The walk of FnExactLogText.
-/
import Derived.Test.YtebklbncfcdkmaaDoorY4
import Derived.Test.YtebklbncfcdkmaaDoorE3
import Derived.Test.YtebklbncfcdkmaaDoorOp3
namespace Go.Proofs.YtebklbncfcdkmaaDoor.fnExactLogText
open Go.RowKit Go.Proofs.YtebklbncfcdkmaaDoor

set_option maxRecDepth 100000 in
set_option maxHeartbeats 2000000 in
theorem walk (v0 : Value) (w : World) (h0 : IsUpdsV w v0) :
    Calls Tryd.prog 4 #[v0] w fun e w' => e = .returned (.bool true) ∧ Below w.heap.size w w' := by
  obtain ⟨a, cap, us, rfl, hc, hm, hx⟩ := h0
  by_cases hl : us.length ≤ 1048576
  · have l1 : us.length ≤ 2097152 := by omega
    have l2 : us.length ≤ 1099511627776 := by omega
    have z1 : 0 ≤ (1048576 : Int) - (us.length : Int) := by omega
    have SP := Lib.hid (fun A C W (h : UpdsAt W A us) => specLogText_calls A C us W l2 h)
    have IM := Lib.hid (fun A C W (h : UpdsAt W A us) => logText_calls A C us W l2 h)
    generalize logText us = t at *
    go_enter Tryd.func4, Tryd.ntmps4
    go_wp2_with fail
    refine (szUpdateS_yes a us.length cap 1048576 _ (by omega) (by omega)).mono ?_
    rintro e w1 ⟨rfl, rfl⟩
    go_wp2_with fail
    refine (toUpdateS_calls a cap us _ l1 hx).mono ?_
    rintro e w1 ⟨a1, cap1, rfl, ho1, hb1⟩
    have s1 := (St.start w).call hb1
    go_wp2_with fail
    refine (SP.out a1 cap1 _ (own_cellsR ho1)).mono ?_
    rintro e w2 ⟨rfl, hb2⟩
    have s2 := s1.call hb2
    clear s1 hb1 hb2 ho1
    go_wp2_with fail
    refine (toUpdateS_calls a cap us _ l1 (hx.below s2.below)).mono ?_
    rintro e w3 ⟨a3, cap3, rfl, ho3, hb3⟩
    have s3 := s2.fresh hb3 ho3 (Nat.le_refl _)
    clear s2 ho3 hb3
    go_wp2_with fail
    refine (IM.out a3 cap3 _ (own_cellsR s3.own)).mono ?_
    rintro e w4 ⟨rfl, hb4⟩
    have s4 := s3.call hb4
    clear s3 hb4
    go_wp2_with fail
    refine (toUpdateS_calls a cap us _ l1 (hx.below s4.below)).mono ?_
    rintro e w5 ⟨a5, cap5, rfl, ho5, hb5⟩
    have s5 := s4.fresh hb5 ho5 (Nat.le_refl _)
    clear s4 ho5 hb5
    go_wp2_with fail
    refine (eqUpdateS_eq _ _ _ _ us _ l2 (own_cellsR s5.at1.own) (own_cellsR s5.own)).mono ?_
    rintro e w6 ⟨rfl, hb6⟩
    have s6 := s5.call hb6
    clear s5 hb6
    go_wp2_with fail
    go_ret
    exact ⟨rfl, s6.below⟩
  · unfold maxLen at hm
    go_enter Tryd.func4, Tryd.ntmps4
    go_wp2_with fail
    refine (szUpdateS_no a us.length cap 1048576 _ (by omega) (by omega) (by omega) (by omega)).mono ?_
    rintro e w1 ⟨rfl, rfl⟩
    go_wp2_with fail
    go_ret
    exact ⟨rfl, Below.refl _ _⟩
end Go.Proofs.YtebklbncfcdkmaaDoor.fnExactLogText
