
/-
  The walks of the functions on nodes: valid, copyLog, pending. No statement is proved here.
-/
import Derived.Test.YtgpnbcdboofikaaU2
import Derived.Test.YtgpnbcdboofikaaCp
import Derived.Test.YtgpnbcdboofikaaSl
import Derived.Laws.OwnMore
namespace Go.Proofs.Ytgpnbcdboofikaa
open Go.RowKit

def nodeOk (id : Int) (us : List Upd) (done : Int) : Bool := decide (1 ≤ id ∧ id ≤ 99) && logOk us && decide (0 ≤ done ∧ done ≤ us.length)
theorem nodeOk_bad1 {id : Int} {us : List Upd} {done : Int} (h : ¬ (1 ≤ id ∧ id ≤ 99)) : nodeOk id us done = false := by rw [nodeOk, decide_eq_false h]; rfl
theorem nodeOk_bad2 {id : Int} {us : List Upd} {done : Int} (h : logOk us = false) : nodeOk id us done = false := by rw [nodeOk, h, Bool.and_false]; rfl
theorem nodeOk_bad3 {id : Int} {us : List Upd} {done : Int} (h : ¬ (0 ≤ done ∧ done ≤ us.length)) : nodeOk id us done = false := by rw [nodeOk, decide_eq_false h, Bool.and_false]
theorem nodeOk_good {id : Int} {us : List Upd} {done : Int} (h1 : 1 ≤ id ∧ id ≤ 99) (h2 : logOk us = true) (h3 : 0 ≤ done ∧ done ≤ us.length) : nodeOk id us done = true := by rw [nodeOk, decide_eq_true h1, h2, decide_eq_true h3]; rfl
theorem nodeOk_parts {id : Int} {us : List Upd} {done : Int} (h : nodeOk id us done = true) : (1 ≤ id ∧ id ≤ 99) ∧ logOk us = true ∧ 0 ≤ done ∧ done ≤ us.length := by
  rw [nodeOk, Bool.and_eq_true, Bool.and_eq_true, decide_eq_true_eq, decide_eq_true_eq] at h
  exact ⟨h.1.1, h.1.2, h.2⟩

set_option maxHeartbeats 1000000 in
theorem nodeValid_calls (a : Option Addr) (cap : Nat) (id done : Int) (us : List Upd) (w : World) (hm : us.length ≤ 1099511627776) (hx : UpdsAt w a us) :
    Calls Try.prog 60 #[.agg #[.int .i64 id, .slice a us.length cap, .int .i64 done]] w fun e w' => e = .returned (.bool (nodeOk id us done)) ∧ Below w.heap.size w w' := by
  have s0 := (St.start w).alloc (.cells #[.int .i64 id, .slice a us.length cap, .int .i64 done] 32)
  by_cases h1 : 1 ≤ id ∧ id ≤ 99
  · cases hv : logOk us with
    | false =>
      have F := Lib.hid (nodeOk_bad2 (id := id) (done := done) hv)
      have HX := Lib.hid h1; have HV := Lib.hid hv; clear h1 hv
      go_enter Try.func60, Try.ntmps60
      go_wp2_with fail
      refine (idValid_yes _ _ HX.out).mono ?_
      rintro e w' ⟨rfl, rfl⟩
      go_wp2_with fail
      refine (logValid_calls _ _ _ _ hm (hx.below s0.below)).mono ?_
      rw [HV.out]
      rintro e w1 ⟨rfl, hb⟩
      go_wp2_with fail
      go_ret
      exact ⟨ret_bool (by rw [F.out]), (s0.call hb).below⟩
    | true =>
      have G := Lib.hid (fun h3 => nodeOk_good (done := done) h1 hv h3)
      have B := Lib.hid (fun h3 => nodeOk_bad3 (id := id) (us := us) (done := done) h3)
      have HX := Lib.hid h1; have HV := Lib.hid hv; clear h1 hv
      by_cases h2 : 0 ≤ done
      · by_cases h3 : done ≤ us.length
        · have FF := Lib.hid (G.out ⟨h2, h3⟩)
          go_enter Try.func60, Try.ntmps60
          go_wp2_with fail
          refine (idValid_yes _ _ HX.out).mono ?_
          rintro e w' ⟨rfl, rfl⟩
          go_wp2_with fail
          refine (logValid_calls _ _ _ _ hm (hx.below s0.below)).mono ?_
          rw [HV.out]
          rintro e w1 ⟨rfl, hb⟩
          have s1 := s0.call hb
          obtain ⟨c1, _⟩ := s1.cells
          go_wp2_with fail
          go_ret
          exact ⟨ret_bool (by rw [FF.out] <;> (simp; omega)), s1.below⟩
        · have FF := Lib.hid (B.out (fun h => h3 h.2))
          go_enter Try.func60, Try.ntmps60
          go_wp2_with fail
          refine (idValid_yes _ _ HX.out).mono ?_
          rintro e w' ⟨rfl, rfl⟩
          go_wp2_with fail
          refine (logValid_calls _ _ _ _ hm (hx.below s0.below)).mono ?_
          rw [HV.out]
          rintro e w1 ⟨rfl, hb⟩
          have s1 := s0.call hb
          obtain ⟨c1, _⟩ := s1.cells
          go_wp2_with fail
          go_ret
          exact ⟨ret_bool (by rw [FF.out] <;> (simp; omega)), s1.below⟩
      · have FF := Lib.hid (B.out (fun h => h2 h.1))
        go_enter Try.func60, Try.ntmps60
        go_wp2_with fail
        refine (idValid_yes _ _ HX.out).mono ?_
        rintro e w' ⟨rfl, rfl⟩
        go_wp2_with fail
        refine (logValid_calls _ _ _ _ hm (hx.below s0.below)).mono ?_
        rw [HV.out]
        rintro e w1 ⟨rfl, hb⟩
        have s1 := s0.call hb
        obtain ⟨c1, _⟩ := s1.cells
        go_wp2_with fail
        go_ret
        exact ⟨ret_bool (by rw [FF.out] <;> (simp; omega)), s1.below⟩
  · have F := Lib.hid (nodeOk_bad1 (us := us) (done := done) h1)
    have HX := Lib.hid h1; clear h1
    go_enter Try.func60, Try.ntmps60
    go_wp2_with fail
    refine (idValid_no _ _ HX.out).mono ?_
    rintro e w' ⟨rfl, rfl⟩
    go_wp2_with fail
    go_ret
    exact ⟨ret_bool (by rw [F.out]), s0.below⟩

set_option maxHeartbeats 1000000 in
theorem specNodeValid_calls (a : Option Addr) (cap : Nat) (id done : Int) (us : List Upd) (w : World) (hm : us.length ≤ 1099511627776) (hx : UpdsAt w a us) :
    Calls Try.prog 63 #[.agg #[.int .i64 id, .slice a us.length cap, .int .i64 done]] w fun e w' => e = .returned (.bool (nodeOk id us done)) ∧ Below w.heap.size w w' := by
  have s0 := (St.start w).alloc (.cells #[.int .i64 id, .slice a us.length cap, .int .i64 done] 32)
  by_cases h1 : 1 ≤ id ∧ id ≤ 99
  · cases hv : logOk us with
    | false =>
      have F := Lib.hid (nodeOk_bad2 (id := id) (done := done) hv)
      have HX := Lib.hid h1; have HV := Lib.hid hv; clear h1 hv
      go_enter Try.func63, Try.ntmps63
      go_wp2_with fail
      refine (l6In_yes _ _ _ _ HX.out).mono ?_
      rintro e w' ⟨rfl, rfl⟩
      go_wp2_with fail
      refine (specLogValid_calls _ _ _ _ hm (hx.below s0.below)).mono ?_
      rw [HV.out]
      rintro e w1 ⟨rfl, hb⟩
      go_wp2_with fail
      go_ret
      exact ⟨ret_bool (by rw [F.out]), (s0.call hb).below⟩
    | true =>
      have G := Lib.hid (fun h3 => nodeOk_good (done := done) h1 hv h3)
      have B := Lib.hid (fun h3 => nodeOk_bad3 (id := id) (us := us) (done := done) h3)
      have HX := Lib.hid h1; have HV := Lib.hid hv; clear h1 hv
      by_cases h2 : 0 ≤ done ∧ done ≤ us.length
      · have HY := Lib.hid h2; clear h2
        go_enter Try.func63, Try.ntmps63
        go_wp2_with fail
        refine (l6In_yes _ _ _ _ HX.out).mono ?_
        rintro e w' ⟨rfl, rfl⟩
        go_wp2_with fail
        refine (specLogValid_calls _ _ _ _ hm (hx.below s0.below)).mono ?_
        rw [HV.out]
        rintro e w1 ⟨rfl, hb⟩
        have s1 := s0.call hb
        obtain ⟨c1, _⟩ := s1.cells
        go_wp2_with fail
        refine (l6In_yes _ _ _ _ HY.out).mono ?_
        rintro e w' ⟨rfl, rfl⟩
        go_wp2_with fail
        go_ret
        exact ⟨ret_bool (by rw [G.out HY.out]), s1.below⟩
      · have HY := Lib.hid h2; clear h2
        go_enter Try.func63, Try.ntmps63
        go_wp2_with fail
        refine (l6In_yes _ _ _ _ HX.out).mono ?_
        rintro e w' ⟨rfl, rfl⟩
        go_wp2_with fail
        refine (specLogValid_calls _ _ _ _ hm (hx.below s0.below)).mono ?_
        rw [HV.out]
        rintro e w1 ⟨rfl, hb⟩
        have s1 := s0.call hb
        obtain ⟨c1, _⟩ := s1.cells
        go_wp2_with fail
        refine (l6In_no _ _ _ _ HY.out).mono ?_
        rintro e w' ⟨rfl, rfl⟩
        go_wp2_with fail
        go_ret
        exact ⟨ret_bool (by rw [B.out HY.out]), s1.below⟩
  · have F := Lib.hid (nodeOk_bad1 (us := us) (done := done) h1)
    have HX := Lib.hid h1; clear h1
    go_enter Try.func63, Try.ntmps63
    go_wp2_with fail
    refine (l6In_no _ _ _ _ HX.out).mono ?_
    rintro e w' ⟨rfl, rfl⟩
    go_wp2_with fail
    go_ret
    exact ⟨ret_bool (by rw [F.out]), s0.below⟩

theorem all_upd (us : List Upd) : ∀ v ∈ ucells us, v.oneCell' = true := by
  intro v hv
  simp only [ucells, List.mem_flatMap] at hv
  obtain ⟨u, _, hu⟩ := hv
  simp at hu
  rcases hu with rfl | rfl <;> rfl

set_option maxRecDepth 100000 in
set_option maxHeartbeats 1000000 in
theorem copyLog_calls (a : Option Addr) (n cap : Nat) (us : List Upd) (w : World) (hn : n = us.length) (hm : us.length ≤ 2097152) (hx : UpdsAt w a us) :
    Calls Try.prog 55 #[.slice a n cap] w fun e w' => ∃ g, e = .returned (.slice (some ⟨g, 0, none⟩) n n) ∧ St w w' [row (.slice (some ⟨g, 0, none⟩) n n) 91 2 n (ucells us)] := by
  subst hn
  obtain ⟨ht, i, z, hi, hz, hsize, hby, hzs, hsz⟩ := elem_upd
  obtain ⟨wm, hr, ho, hg⟩ := run_makeSlice_full (P := Try.prog) w w.heap.size 30 91 i z 2 ht hi hz hsize .i64 .i64 us.length (by omega) (by rw [hby]; omega) (by unfold maxLen; omega) (Nat.le_refl _)
  rcases ho.2 with ⟨e, _⟩ | ⟨g', cap', cur, e, _, hh, _, _, hcs, _⟩
  · simp at e
  cases e
  have hsrc := hx.below (grown_below hg)
  have hfit : (ucells us).length ≤ cur.size := by rw [ucells_len, hcs]; omega
  have s0 : St w wm (box w.heap.size cur 91 :: []) := (St.start w).add hg hh (fun b hb => by cases hb; exact ho.lt _ rfl)
  have UL := Lib.hid (ucells_len us)
  have HC := Lib.hid hcs
  have hcl : us.length * 2 ≤ cur.size := by omega
  clear ho hg hi hz hsize hby hzs hsz ht hcs
  go_enter Try.func55, Try.ntmps55
  go_wp2_with (refine list_copy (by rfl) (.tmp 7) (.tmp 8) 30 30 (by rfl) 91 2 Try.underlying30 info_upd2 w.heap.size us.length us.length cap a (by rfl) (by rfl) (ucells us) cur 91 UL.out hsrc hh hfit (all_upd us) ?_)
  intro w' hh' hg'
  have s1 := s0.boxTo hg' hh'
  have e : (ucells us ++ List.drop (ucells us).length cur.toList) = ucells us := by
    rw [List.drop_of_length_le (by rw [UL.out, Array.length_toList, HC.out]; exact Nat.le_refl _), List.append_nil]
  rw [e] at s1
  have s2 := s1.madeRow 2 us.length (by simp [UL.out]) (by unfold maxLen; omega) us.length (Nat.le_refl _)
  have e2 : (ucells us).toArray.toList.take (us.length * 2) = ucells us := by
    rw [List.take_of_length_le (by simp [UL.out])]
  rw [e2] at s2
  clear hh' hg' s1 s0 e e2 hsrc hh hr
  go_wp2_with fail
  go_ret
  exact ⟨_, rfl, s2⟩

end Go.Proofs.Ytgpnbcdboofikaa
