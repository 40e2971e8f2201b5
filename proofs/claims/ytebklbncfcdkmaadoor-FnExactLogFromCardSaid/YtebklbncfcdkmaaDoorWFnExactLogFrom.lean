
/-
  The walk of FnExactLogFrom.
-/
import Derived.Test.YtebklbncfcdkmaaDoorYK
import Derived.Test.YtebklbncfcdkmaaDoorE4
import Derived.Test.YtebklbncfcdkmaaDoorOp8
namespace Go.Proofs.YtebklbncfcdkmaaDoor.fnExactLogFrom
open Go.RowKit Go.Proofs.YtebklbncfcdkmaaDoor

set_option maxRecDepth 100000 in
set_option maxHeartbeats 4000000 in
theorem walk (v0 : Value) (w : World) (hD : Door w) (h0 : IsStrV v0) :
    Calls Tryd.prog 10 #[v0] w fun e w' => e = .returned (.bool true) ∧ Below w.heap.size w w' := by
  obtain ⟨S, rfl, hs⟩ := h0
  unfold maxLen at hs
  by_cases hbig : S.size ≤ 1048576
  · have HD := Lib.hid hD
    have SP := Lib.hid (fun W => specLogFrom_calls S W (by omega))
    have IM := Lib.hid (fun W (h : Door W) => logFrom_calls S W (by omega) h.max h.err)
    clear hD
    go_enter Tryd.func10, Tryd.ntmps10
    go_wp2_with fail
    refine (SP.out _).mono ?_
    rintro e w1 ⟨v1, us, ok, rfl, hf1, hul, s1⟩
    go_wp2_with fail
    refine (IM.out _ (HD.out.below s1.below)).mono ?_
    rintro e w2 ⟨v2, us2, ok2, rfl, hf2, _, ss⟩
    obtain ⟨rfl, rfl⟩ := hf1.eq hf2
    have s2 := s1.join ss
    obtain ⟨a1, cap1, rfl, hx1⟩ := own_cells s2.at1.own
    obtain ⟨a2, cap2, rfl, hx2⟩ := own_cells s2.own
    have FL := Lib.hid hf1
    have m1 : us.length ≤ 1099511627776 := by omega
    have m2 : us.length ≤ 2097152 := by
      cases ok with
      | true => have := (logOk_all (hf1.1 rfl).1).1; omega
      | false => rw [(hf1.2 rfl).1]; simp
    clear hf1 hf2 s1 ss hul
    go_wp2_with fail
    refine (eqUpdateS_eq a2 a1 cap2 cap1 us _ m1 hx2 hx1).mono ?_
    rintro e w3 ⟨rfl, hb3⟩
    have s3 := s2.call hb3
    clear s2 hb3 hx1 hx2
    cases ok
    all_goals
      go_wp2_with fail
      refine (markUpdateS_st a2 us.length cap2 1 _ s3 m2 (by omega) (by omega)).mono ?_
      rintro e w4 ⟨rfl, s4⟩
      have hc4 := own_cellsR s4.own
      clear s3
      go_wp2_with fail
      refine (heldUpdateS_calls a2 us.length cap2 1 _ hc4 m2 (by omega) (by omega)).mono ?_
      rintro e w5 ⟨rfl, rfl⟩
      have n1 : ¬ (1 + 2 * (us.length : Int) < 0) := by omega
      go_wp2_with fail
      refine (IM.out _ (HD.out.below s4.below)).mono ?_
      rintro e w6 ⟨v6, us6, ok6, rfl, hf6, _, ss⟩
      obtain ⟨rfl, rfl⟩ := FL.out.eq hf6
      have s6 := s4.join ss
      obtain ⟨a6, cap6, rfl, hx6⟩ := own_cells s6.own
      have hx1 := own_cellsR s6.at2.own
      clear hf6 ss s4 hc4
      go_wp2_with fail
      refine (eqUpdateS_eq a6 a1 cap6 cap1 us _ m1 hx6 hx1).mono ?_
      rintro e w7 ⟨rfl, hb7⟩
      have s7 := s6.call hb7
      have hc7 := own_cellsR s7.at1.own
      have F := Lib.hid s7.below
      clear s6 hb7 hx6 hx1 s7
      go_wp2_with fail
      refine (heldUpdateS_calls a2 us.length cap2 1 _ hc7 m2 (by omega) (by omega)).mono ?_
      rintro e w8 ⟨rfl, rfl⟩
      go_wp2_with fail
      go_ret
      exact ⟨rfl, F.out⟩
  · go_enter Tryd.func10, Tryd.ntmps10
    go_wp2_with fail
    go_ret
    exact ⟨rfl, Below.refl _ _⟩
end Go.Proofs.YtebklbncfcdkmaaDoor.fnExactLogFrom
