
/-
  The walks of the functions on nodes: valid, copyLog, pending. No statement is proved here.
-/
import Derived.Test.YtebklbncfcdkmaaDoorU2
import Derived.Test.YtebklbncfcdkmaaDoorCp
import Derived.Test.YtebklbncfcdkmaaDoorSl
import Derived.Laws.OwnMore
namespace Go.Proofs.YtebklbncfcdkmaaDoor
open Go.RowKit

def nodeOk (id : Int) (us : List Upd) (done : Int) : Bool := decide (1 ≤ id ∧ id ≤ 99) && logOk us && decide (0 ≤ done ∧ done ≤ us.length)
theorem nodeOk_bad1 {id : Int} {us : List Upd} {done : Int} (h : ¬ (1 ≤ id ∧ id ≤ 99)) : nodeOk id us done = false := by rw [nodeOk, decide_eq_false h]; rfl
theorem nodeOk_bad2 {id : Int} {us : List Upd} {done : Int} (h : logOk us = false) : nodeOk id us done = false := by rw [nodeOk, h, Bool.and_false]; rfl
theorem nodeOk_bad3 {id : Int} {us : List Upd} {done : Int} (h : ¬ (0 ≤ done ∧ done ≤ us.length)) : nodeOk id us done = false := by rw [nodeOk, decide_eq_false h, Bool.and_false]
theorem nodeOk_good {id : Int} {us : List Upd} {done : Int} (h1 : 1 ≤ id ∧ id ≤ 99) (h2 : logOk us = true) (h3 : 0 ≤ done ∧ done ≤ us.length) : nodeOk id us done = true := by rw [nodeOk, decide_eq_true h1, h2, decide_eq_true h3]; rfl
theorem nodeOk_parts {id : Int} {us : List Upd} {done : Int} (h : nodeOk id us done = true) : (1 ≤ id ∧ id ≤ 99) ∧ logOk us = true ∧ 0 ≤ done ∧ done ≤ us.length := by
  rw [nodeOk, Bool.and_eq_true, Bool.and_eq_true, decide_eq_true_eq, decide_eq_true_eq] at h
  exact ⟨h.1.1, h.1.2, h.2⟩

set_option maxHeartbeats 1000000 in
theorem nodeValid_calls (a : Option Addr) (cap : Nat) (id done : Int) (us : List Upd) (w : World) (hm : us.length ≤ 1099511627776) (hx : UpdsAt w a us) :
    Calls Tryd.prog 67 #[.agg #[.int .i64 id, .slice a us.length cap, .int .i64 done]] w fun e w' => e = .returned (.bool (nodeOk id us done)) ∧ Below w.heap.size w w' := by
  have s0 := (St.start w).alloc (.cells #[.int .i64 id, .slice a us.length cap, .int .i64 done] 44)
  by_cases h1 : 1 ≤ id ∧ id ≤ 99
  · cases hv : logOk us with
    | false =>
      have F := Lib.hid (nodeOk_bad2 (id := id) (done := done) hv)
      have HX := Lib.hid h1; have HV := Lib.hid hv; clear h1 hv
      go_enter Tryd.func67, Tryd.ntmps67
      go_wp2_with fail
      refine (idValid_yes _ _ HX.out).mono ?_
      rintro e w' ⟨rfl, rfl⟩
      go_wp2_with fail
      refine (logValid_calls _ _ _ _ hm (hx.below s0.below)).mono ?_
      rw [HV.out]
      rintro e w1 ⟨rfl, hb⟩
      go_wp2_with fail
      go_ret
      exact ⟨ret_bool (by rw [F.out]), (s0.call hb).below⟩
    | true =>
      have G := Lib.hid (fun h3 => nodeOk_good (done := done) h1 hv h3)
      have B := Lib.hid (fun h3 => nodeOk_bad3 (id := id) (us := us) (done := done) h3)
      have HX := Lib.hid h1; have HV := Lib.hid hv; clear h1 hv
      by_cases h2 : 0 ≤ done
      · by_cases h3 : done ≤ us.length
        · have FF := Lib.hid (G.out ⟨h2, h3⟩)
          go_enter Tryd.func67, Tryd.ntmps67
          go_wp2_with fail
          refine (idValid_yes _ _ HX.out).mono ?_
          rintro e w' ⟨rfl, rfl⟩
          go_wp2_with fail
          refine (logValid_calls _ _ _ _ hm (hx.below s0.below)).mono ?_
          rw [HV.out]
          rintro e w1 ⟨rfl, hb⟩
          have s1 := s0.call hb
          obtain ⟨c1, _⟩ := s1.cells
          go_wp2_with fail
          go_ret
          exact ⟨ret_bool (by rw [FF.out] <;> (simp; omega)), s1.below⟩
        · have FF := Lib.hid (B.out (fun h => h3 h.2))
          go_enter Tryd.func67, Tryd.ntmps67
          go_wp2_with fail
          refine (idValid_yes _ _ HX.out).mono ?_
          rintro e w' ⟨rfl, rfl⟩
          go_wp2_with fail
          refine (logValid_calls _ _ _ _ hm (hx.below s0.below)).mono ?_
          rw [HV.out]
          rintro e w1 ⟨rfl, hb⟩
          have s1 := s0.call hb
          obtain ⟨c1, _⟩ := s1.cells
          go_wp2_with fail
          go_ret
          exact ⟨ret_bool (by rw [FF.out] <;> (simp; omega)), s1.below⟩
      · have FF := Lib.hid (B.out (fun h => h2 h.1))
        go_enter Tryd.func67, Tryd.ntmps67
        go_wp2_with fail
        refine (idValid_yes _ _ HX.out).mono ?_
        rintro e w' ⟨rfl, rfl⟩
        go_wp2_with fail
        refine (logValid_calls _ _ _ _ hm (hx.below s0.below)).mono ?_
        rw [HV.out]
        rintro e w1 ⟨rfl, hb⟩
        have s1 := s0.call hb
        obtain ⟨c1, _⟩ := s1.cells
        go_wp2_with fail
        go_ret
        exact ⟨ret_bool (by rw [FF.out] <;> (simp; omega)), s1.below⟩
  · have F := Lib.hid (nodeOk_bad1 (us := us) (done := done) h1)
    have HX := Lib.hid h1; clear h1
    go_enter Tryd.func67, Tryd.ntmps67
    go_wp2_with fail
    refine (idValid_no _ _ HX.out).mono ?_
    rintro e w' ⟨rfl, rfl⟩
    go_wp2_with fail
    go_ret
    exact ⟨ret_bool (by rw [F.out]), s0.below⟩

set_option maxHeartbeats 1000000 in
theorem specNodeValid_calls (a : Option Addr) (cap : Nat) (id done : Int) (us : List Upd) (w : World) (hm : us.length ≤ 1099511627776) (hx : UpdsAt w a us) :
    Calls Tryd.prog 71 #[.agg #[.int .i64 id, .slice a us.length cap, .int .i64 done]] w fun e w' => e = .returned (.bool (nodeOk id us done)) ∧ Below w.heap.size w w' := by
  have s0 := (St.start w).alloc (.cells #[.int .i64 id, .slice a us.length cap, .int .i64 done] 44)
  by_cases h1 : 1 ≤ id ∧ id ≤ 99
  · cases hv : logOk us with
    | false =>
      have F := Lib.hid (nodeOk_bad2 (id := id) (done := done) hv)
      have HX := Lib.hid h1; have HV := Lib.hid hv; clear h1 hv
      go_enter Tryd.func71, Tryd.ntmps71
      go_wp2_with fail
      refine (l6In_yes _ _ _ _ HX.out).mono ?_
      rintro e w' ⟨rfl, rfl⟩
      go_wp2_with fail
      refine (specLogValid_calls _ _ _ _ hm (hx.below s0.below)).mono ?_
      rw [HV.out]
      rintro e w1 ⟨rfl, hb⟩
      go_wp2_with fail
      go_ret
      exact ⟨ret_bool (by rw [F.out]), (s0.call hb).below⟩
    | true =>
      have G := Lib.hid (fun h3 => nodeOk_good (done := done) h1 hv h3)
      have B := Lib.hid (fun h3 => nodeOk_bad3 (id := id) (us := us) (done := done) h3)
      have HX := Lib.hid h1; have HV := Lib.hid hv; clear h1 hv
      by_cases h2 : 0 ≤ done ∧ done ≤ us.length
      · have HY := Lib.hid h2; clear h2
        go_enter Tryd.func71, Tryd.ntmps71
        go_wp2_with fail
        refine (l6In_yes _ _ _ _ HX.out).mono ?_
        rintro e w' ⟨rfl, rfl⟩
        go_wp2_with fail
        refine (specLogValid_calls _ _ _ _ hm (hx.below s0.below)).mono ?_
        rw [HV.out]
        rintro e w1 ⟨rfl, hb⟩
        have s1 := s0.call hb
        obtain ⟨c1, _⟩ := s1.cells
        go_wp2_with fail
        refine (l6In_yes _ _ _ _ HY.out).mono ?_
        rintro e w' ⟨rfl, rfl⟩
        go_wp2_with fail
        go_ret
        exact ⟨ret_bool (by rw [G.out HY.out]), s1.below⟩
      · have HY := Lib.hid h2; clear h2
        go_enter Tryd.func71, Tryd.ntmps71
        go_wp2_with fail
        refine (l6In_yes _ _ _ _ HX.out).mono ?_
        rintro e w' ⟨rfl, rfl⟩
        go_wp2_with fail
        refine (specLogValid_calls _ _ _ _ hm (hx.below s0.below)).mono ?_
        rw [HV.out]
        rintro e w1 ⟨rfl, hb⟩
        have s1 := s0.call hb
        obtain ⟨c1, _⟩ := s1.cells
        go_wp2_with fail
        refine (l6In_no _ _ _ _ HY.out).mono ?_
        rintro e w' ⟨rfl, rfl⟩
        go_wp2_with fail
        go_ret
        exact ⟨ret_bool (by rw [B.out HY.out]), s1.below⟩
  · have F := Lib.hid (nodeOk_bad1 (us := us) (done := done) h1)
    have HX := Lib.hid h1; clear h1
    go_enter Tryd.func71, Tryd.ntmps71
    go_wp2_with fail
    refine (l6In_no _ _ _ _ HX.out).mono ?_
    rintro e w' ⟨rfl, rfl⟩
    go_wp2_with fail
    go_ret
    exact ⟨ret_bool (by rw [F.out]), s0.below⟩

theorem all_upd (us : List Upd) : ∀ v ∈ ucells us, v.oneCell' = true := by
  intro v hv
  simp only [ucells, List.mem_flatMap] at hv
  obtain ⟨u, _, hu⟩ := hv
  simp at hu
  rcases hu with rfl | rfl <;> rfl

end Go.Proofs.YtebklbncfcdkmaaDoor
