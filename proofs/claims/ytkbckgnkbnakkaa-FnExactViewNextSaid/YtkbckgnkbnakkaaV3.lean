/-
  The walks of ViewTakes, the program's and the reference's. No statement is proved here.
-/
import Derived.Test.YtkbckgnkbnakkaaV2
import Derived.Test.YtkbckgnkbnakkaaP2
namespace Go.Proofs.Ytkbckgnkbnakkaa
open Go.RowKit

theorem box_view {w : World} {num : Int} {v : Value} : Below w.heap.size w (w.alloc (.cells #[.int .i64 num, v] 25)) := (Below.refl _ _).alloc (Nat.le_refl _) _

set_option maxHeartbeats 2000000 in
theorem viewTakes_calls (a : Option Addr) (cap : Nat) (num f t n : Int) (xs : List Int) (w : World) (hm : xs.length ≤ 1099511627776) (hx : IntsAt w a xs) :
    Calls Try.prog 21 #[.agg #[.int .i64 num, .slice a xs.length cap], .int .i64 f, .int .i64 t, .int .i64 n] w fun e w' => e = .returned (.bool (takesOk num xs f t n)) ∧ Below w.heap.size w w' := by
  have hx1 := hx.below (box_view (num := num) (v := .slice a xs.length cap))
  have hb1 := box_view (w := w) (num := num) (v := .slice a xs.length cap)
  cases hv : viewOk num xs with
  | false =>
    have F := Lib.hid (takes_bad1 (f := f) (t := t) (n := n) hv)
    have HV := Lib.hid hv
    clear hv
    go_enter Try.func21, Try.ntmps21
    go_wp2_with fail
    refine (viewValid_calls _ _ _ _ _ hm hx1).mono ?_
    rw [HV.out]
    rintro e w1 ⟨rfl, hb⟩
    go_wp2_with fail
    go_ret
    exact ⟨by rw [F.out]; rfl, hb1.trans (hb.mono (by simp))⟩
  | true =>
    obtain ⟨hok, hl1, hl5, hn0, hn1⟩ := viewOk_ids hv
    by_cases hnum : num = n
    · subst hnum
      have F := Lib.hid (takes_adj (f := f) (t := t) hv)
      have HV := Lib.hid hv
      clear hv hok
      go_enter Try.func21, Try.ntmps21
      go_wp2_with fail
      refine (viewValid_calls _ _ _ _ _ hm hx1).mono ?_
      rw [HV.out]
      rintro e w1 ⟨rfl, hb⟩
      have hV1 := (hb.block w.heap.size (by simp)).trans (heap_alloc_new w _)
      have hB1 := hb1.trans (hb.mono (by simp))
      have hc0 : w1.cell? ⟨w.heap.size, 0, none⟩ = some (.int .i64 num) := by rw [cell_of_heap hV1]; rfl
      go_wp2_with fail
      go_loopw [9] (fun i wr => ∃ k : Nat, k + 1 ≤ xs.length ∧ i = .int .i64 ((k : Int) + 1) ∧ (∀ j, j < k → pairAt xs f t j = false) ∧ Below w.heap.size w wr ∧ wr.heap[w.heap.size]? = some (.cells #[.int .i64 num, .slice a xs.length cap] 25 (0, 0))) (fun i _ => xs.length + 1 - (intOf i).toNat)
      case atStart => exact ⟨0, hl1, rfl, by intro j hj; omega, hB1, hV1⟩
      case round =>
        obtain ⟨k, hk, rfl, hno, hbel, hV⟩ := hrel
        have hc1 : wr.cell? ⟨w.heap.size, 1, none⟩ = some (.slice a xs.length cap) := by rw [cell_of_heap hV]; rfl
        have HNO := Lib.hid hno
        clear hno
        by_cases hlt : k + 1 < xs.length
        · rcases hx.below hbel with rfl | ⟨b, off, rfl, hc⟩
          · simp at hlt
          have hcell0 : wr.cell? ⟨b, off + k, none⟩ = some (.int .i64 xs[k]) := by
            have := hc k (by omega)
            simpa [show k < xs.length by omega] using this
          have hcell1 : wr.cell? ⟨b, off + (k + 1), none⟩ = some (.int .i64 xs[k + 1]) := by
            have := hc (k + 1) hlt
            simpa [hlt] using this
          have i1 : (0 : Int) ≤ (k : Int) := by omega
          have i2 : (k : Int) < (xs.length : Int) := by omega
          have i3 : (0 : Int) ≤ (k : Int) + 1 := by omega
          have i4 : (k : Int) + 1 < (xs.length : Int) := by omega
          have i5 : ((k : Int) + 1).toNat = k + 1 := by omega
          have hp : pairAt xs f t k = ((xs[k] == f && xs[k + 1] == t) || (xs[k] == t && xs[k + 1] == f)) := by
            simp [pairAt, List.getD, hlt, show k < xs.length by omega]
          have HP := Lib.hid hp
          have step : pairAt xs f t k = false → ∀ j, j < k + 1 → pairAt xs f t j = false := fun h j hj => by
            by_cases e : j = k
            · rw [e]; exact h
            · exact HNO.out j (by omega)
          have STEP := Lib.hid step
          clear hc hp step
          generalize hy0 : xs[k] = y0 at *
          generalize hy1 : xs[k + 1] = y1 at *
          clear hy0 hy1
          go_wp2_with fail
          go_quiet (fail)
          cases h1 : (y0 == f) <;> cases h2 : (y1 == t) <;> cases h3 : (y0 == t) <;> cases h4 : (y1 == f)
          all_goals
            have hq := HP.out
            rw [h1, h2, h3, h4] at hq
            have HQ := Lib.hid hq
            clear hq
            go_wp2_with fail
            first
              | (go_ret; exact ⟨by rw [F.out, adj_yes k hlt HQ.out]; rfl, below_drewN hbel _⟩)
              | (go_roundw
                 case rel => exact ⟨k + 1, hlt, by go_num, STEP.out HQ.out, below_drewN hbel _, hV⟩
                 case measure => simp [intOf]; omega)
        · have F2 : Hid (adj xs f t = false) := Lib.hid (adj_no fun j hj => HNO.out j (by omega))
          go_wp2_with fail
          go_ret
          exact ⟨by rw [F.out, F2.out]; rfl, hbel⟩
    · have F := Lib.hid (takes_bad2 (xs := xs) (f := f) (t := t) hnum)
      have HV := Lib.hid hv
      have hnum' : (num == n) = false := by simpa using hnum
      clear hv hnum
      go_enter Try.func21, Try.ntmps21
      go_wp2_with fail
      refine (viewValid_calls _ _ _ _ _ hm hx1).mono ?_
      rw [HV.out]
      rintro e w1 ⟨rfl, hb⟩
      have hV1 := (hb.block w.heap.size (by simp)).trans (heap_alloc_new w _)
      have hc0 : w1.cell? ⟨w.heap.size, 0, none⟩ = some (.int .i64 num) := by rw [cell_of_heap hV1]; rfl
      go_wp2_with fail
      go_ret
      exact ⟨by rw [F.out]; rfl, hb1.trans (hb.mono (by simp))⟩

set_option maxHeartbeats 2000000 in
theorem specViewTakes_calls (a : Option Addr) (cap : Nat) (num f t n : Int) (xs : List Int) (w : World) (hm : xs.length ≤ 1099511627776) (hx : IntsAt w a xs) :
    Calls Try.prog 23 #[.agg #[.int .i64 num, .slice a xs.length cap], .int .i64 f, .int .i64 t, .int .i64 n] w fun e w' => e = .returned (.bool (takesOk num xs f t n)) ∧ Below w.heap.size w w' := by
  have hx1 := hx.below (box_view (num := num) (v := .slice a xs.length cap))
  have hb1 := box_view (w := w) (num := num) (v := .slice a xs.length cap)
  have pf := place_bd xs f
  have pt := place_bd xs t
  have ADJ : Hid (∀ b, viewOk num xs = true → num = n → decide (0 ≤ place xs f ∧ 0 ≤ place xs t ∧ (place xs f + 1 = place xs t ∨ place xs t + 1 = place xs f)) = b → takesOk num xs f t n = b) := Lib.hid fun b hv hn hd => by
    subst hn
    rw [takes_adj hv, ← adj_place (viewOk_ids hv).1, hd]
  have pl1 := l13Place_calls a cap xs f (w.alloc (.cells #[.int .i64 num, .slice a xs.length cap] 25)) hm hx1
  have pl2 := l13Place_calls a cap xs t (w.alloc (.cells #[.int .i64 num, .slice a xs.length cap] 25)) hm hx1
  generalize place xs f = p at *
  generalize place xs t = q at *
  have PL1 := Lib.hid pl1; have PL2 := Lib.hid pl2
  clear pl1 pl2
  cases hv : viewOk num xs with
  | false =>
    have F := Lib.hid (takes_bad1 (f := f) (t := t) (n := n) hv)
    have HV := Lib.hid hv
    clear hv
    go_enter Try.func23, Try.ntmps23
    go_wp2_with fail
    refine PL1.out.mono ?_
    rintro e w' ⟨rfl, rfl⟩
    go_wp2_with fail
    refine PL2.out.mono ?_
    rintro e w' ⟨rfl, rfl⟩
    go_wp2_with fail
    refine (specViewValid_calls _ _ _ _ _ hm hx1).mono ?_
    rw [HV.out]
    rintro e w1 ⟨rfl, hb⟩
    go_wp2_with fail
    go_ret
    exact ⟨by rw [F.out]; rfl, hb1.trans (hb.mono (by simp))⟩
  | true =>
    by_cases hnum : num = n
    · have HN := Lib.hid hnum
      have hnum' : (n == num) = true := by simp [hnum]
      have HV := Lib.hid hv
      clear hv hnum
      have m1 : ((p + 1) == q) = decide (p + 1 = q) := rfl
      cases h1 : decide (0 ≤ p) <;> cases h2 : decide (0 ≤ q) <;> cases h3 : (p + 1 == q) <;> cases h4 : (q + 1 == p)
      all_goals
        have hd : decide (0 ≤ p ∧ 0 ≤ q ∧ (p + 1 = q ∨ q + 1 = p)) = (decide (0 ≤ p) && decide (0 ≤ q) && ((p + 1 == q) || (q + 1 == p))) := by
          rw [Bool.eq_iff_iff]; simp only [decide_eq_true_eq, Bool.and_eq_true, Bool.or_eq_true, beq_iff_eq]; omega
        rw [h1, h2, h3, h4] at hd
        have F := Lib.hid (ADJ.out _ HV.out HN.out hd)
        clear hd m1
        simp only [decide_eq_true_eq, decide_eq_false_iff_not] at h1 h2
        go_enter Try.func23, Try.ntmps23
        go_wp2_with fail
        refine PL1.out.mono ?_
        rintro e w' ⟨rfl, rfl⟩
        go_wp2_with fail
        refine PL2.out.mono ?_
        rintro e w' ⟨rfl, rfl⟩
        go_wp2_with fail
        refine (specViewValid_calls _ _ _ _ _ hm hx1).mono ?_
        rw [HV.out]
        rintro e w1 ⟨rfl, hb⟩
        have hV1 := (hb.block w.heap.size (by simp)).trans (heap_alloc_new w _)
        have hc0 : w1.cell? ⟨w.heap.size, 0, none⟩ = some (.int .i64 num) := by rw [cell_of_heap hV1]; rfl
        go_wp2_with fail
        go_ret
        exact ⟨by rw [F.out]; rfl, hb1.trans (hb.mono (by simp))⟩
    · have F := Lib.hid (takes_bad2 (xs := xs) (f := f) (t := t) hnum)
      have HV := Lib.hid hv
      have hnum' : (n == num) = false := by rw [beq_eq_false_iff_ne]; exact fun e => hnum e.symm
      clear hv hnum
      go_enter Try.func23, Try.ntmps23
      go_wp2_with fail
      refine PL1.out.mono ?_
      rintro e w' ⟨rfl, rfl⟩
      go_wp2_with fail
      refine PL2.out.mono ?_
      rintro e w' ⟨rfl, rfl⟩
      go_wp2_with fail
      refine (specViewValid_calls _ _ _ _ _ hm hx1).mono ?_
      rw [HV.out]
      rintro e w1 ⟨rfl, hb⟩
      have hV1 := (hb.block w.heap.size (by simp)).trans (heap_alloc_new w _)
      have hc0 : w1.cell? ⟨w.heap.size, 0, none⟩ = some (.int .i64 num) := by rw [cell_of_heap hV1]; rfl
      go_wp2_with fail
      go_ret
      exact ⟨by rw [F.out]; rfl, hb1.trans (hb.mono (by simp))⟩

end Go.Proofs.Ytkbckgnkbnakkaa
