/-
  The walk of the reference's ViewNext. No statement is proved here.
-/
import Derived.Test.YtkbckgnkbnakkaaV4
namespace Go.Proofs.Ytkbckgnkbnakkaa
open Go.RowKit

theorem place_in {xs : List Int} {n : Int} (h : n ∈ xs) : 0 ≤ place xs n := by rw [place, if_pos h]; omega
theorem place_out {xs : List Int} {n : Int} (h : n ∉ xs) : place xs n = -1 := by rw [place, if_neg h]
theorem place_yes (a : Option Addr) (cap : Nat) (xs : List Int) (n : Int) (w : World) (hm : xs.length ≤ 1099511627776) (hx : IntsAt w a xs) (h : n ∈ xs) :
    Calls Try.prog 48 #[.slice a xs.length cap, .int .i64 n] w fun e w' => e = .returned (.int .i64 (place xs n)) ∧ w = w' := l13Place_calls a cap xs n w hm hx
theorem place_no (a : Option Addr) (cap : Nat) (xs : List Int) (n : Int) (w : World) (hm : xs.length ≤ 1099511627776) (hx : IntsAt w a xs) (h : n ∉ xs) :
    Calls Try.prog 48 #[.slice a xs.length cap, .int .i64 n] w fun e w' => e = .returned (.int .i64 (-1)) ∧ w = w' := by
  rw [← place_out h]; exact l13Place_calls a cap xs n w hm hx

set_option maxHeartbeats 2000000 in
theorem specViewNext_calls (a a1 a2 : Option Addr) (cap cap1 cap2 : Nat) (num : Int) (xs failed fresh : List Int) (w : World) (hm : xs.length ≤ 1099511627776) (hm1 : failed.length ≤ 1099511627776) (hm2 : fresh.length ≤ 10000000)
    (hx : IntsAt w a xs) (hf : IntsAt w a1 failed) (hn : IntsAt w a2 fresh) :
    Calls Try.prog 38 #[.agg #[.int .i64 num, .slice a xs.length cap], .slice a1 failed.length cap1, .slice a2 fresh.length cap2] w (Nexted w num xs failed fresh) := by
  have hB1 : Below w.heap.size w (w.alloc (.cells #[.int .i64 num, .slice a xs.length cap] 25)) := (Below.refl _ _).alloc (Nat.le_refl _) _
  have hB2 : Below w.heap.size w ((w.alloc (.cells #[.int .i64 num, .slice a xs.length cap] 25)).alloc (.cells #[.int .i64 0, .slice none 0 0] 25)) := hB1.alloc (by simp) _
  have hx2 := hx.below hB2
  cases hv : viewOk num xs with
  | false =>
    have F := Lib.hid (next_bad1 (failed := failed) (fresh := fresh) hv)
    have HV := Lib.hid hv
    clear hv
    go_enter Try.func38, Try.ntmps38
    go_wp2_with fail
    refine (specViewValid_calls _ _ _ _ _ hm hx2).mono ?_
    rw [HV.out]
    rintro e w1 ⟨rfl, hb⟩
    have hR := (hb.block (w.heap.size + 1) (by simp)).trans (heap_second w _ _)
    have c0 : w1.cell? ⟨w.heap.size + 1, 0, none⟩ = some (.int .i64 0) := by rw [cell_of_heap hR]; rfl
    have c1 : w1.cell? ⟨w.heap.size + 1, 1, none⟩ = some (.slice none 0 0) := by rw [cell_of_heap hR]; rfl
    have f0 := frozen_of_heap (o := 0) hR
    have f1 := frozen_of_heap (o := 1) hR
    have FIN := Lib.hid (nexted_bad F.out (below_set (below_set (hB2.trans (hb.mono (by simp; omega))) (p := ⟨w.heap.size + 1, 0, none⟩) (by simp) (.int .i64 0)) (p := ⟨w.heap.size + 1, 1, none⟩) (by simp) (.slice none 0 0)))
    go_wp2_with fail
    exact bodyPost_ret (v := .tuple #[.agg #[.int .i64 0, .slice none 0 0], .bool false]) (by simp [results, Try.results38, go_sem, c0, c1]) rfl FIN.out
  | true =>
    have HV := Lib.hid hv
    obtain ⟨hids, hl1, hl5, hn0, hn1⟩ := viewOk_ids hv
    clear hv hids
    go_enter Try.func38, Try.ntmps38
    go_wp2_with fail
    refine (specViewValid_calls _ _ _ _ _ hm hx2).mono ?_
    rw [HV.out]
    rintro e w1 ⟨rfl, hb⟩
    have s1 := hb.size
    simp at s1
    have hR1 := (hb.block (w.heap.size + 1) (by simp)).trans (heap_second w _ _)
    have hV1 := (hb.block w.heap.size (by simp; omega)).trans (heap_first w _ _)
    have hB3 : Below w.heap.size w w1 := hB2.trans (hb.mono (by simp; omega))
    have c0 : w1.cell? ⟨w.heap.size, 0, none⟩ = some (.int .i64 num) := by rw [cell_of_heap hV1]; rfl
    have g1 : 0 ≤ num + 1 := by omega
    have g2 : num + 1 ≤ 1000 := by omega
    clear hB1 hB2 hb hx2
    have sO : w.heap.size + 2 ≤ w1.heap.size + 1 := by omega
    go_wp2_with fail
    have hbox : ViewBox ((w1.alloc (.cells #[] 3)).alloc (.cells #[.int .i64 (num + 1), .slice (some ⟨w1.heap.size, 0, none⟩) 0 0] 25)) (w.heap.size + 2) (w1.heap.size + 1) (num + 1) (.slice (some ⟨w1.heap.size, 0, none⟩) 0 0) [] :=
      ⟨heap_second w1 _ _, (World.ownsRow_made w1 #[] 0 (by omega) (by simp [maxLen]) rfl).alloc _, by simp [Value.ownBlock]⟩
    have hV3 := heap_two hV1 (.cells #[] 3) (.cells #[.int .i64 (num + 1), .slice (some ⟨w1.heap.size, 0, none⟩) 0 0] 25)
    have hR3 := heap_two hR1 (.cells #[] 3) (.cells #[.int .i64 (num + 1), .slice (some ⟨w1.heap.size, 0, none⟩) 0 0] 25)
    have hB4 : Below w.heap.size w ((w1.alloc (.cells #[] 3)).alloc (.cells #[.int .i64 (num + 1), .slice (some ⟨w1.heap.size, 0, none⟩) 0 0] 25)) := (hB3.alloc (by omega) _).alloc (by simp; omega) _
    clear hR1 hV1 hB3 c0
    generalize (w1.alloc (.cells #[] 3)).alloc (.cells #[.int .i64 (num + 1), .slice (some ⟨w1.heap.size, 0, none⟩) 0 0] 25) = w2 at *
    generalize w1.heap.size + 1 = O at *
    generalize w1.heap.size = U at *
    go_loopw [9] (fun i wr => ∃ (k : Nat) (v : Value), k ≤ xs.length ∧ i = .int .i64 k ∧ ViewBox wr (w.heap.size + 2) O (num + 1) v (keptIds (xs.take k) failed) ∧ wr.heap[w.heap.size]? = some (.cells #[.int .i64 num, .slice a xs.length cap] 25 (0, 0)) ∧ wr.heap[w.heap.size + 1]? = some (.cells #[.int .i64 0, .slice none 0 0] 25 (0, 0)) ∧ Below w.heap.size w wr) (fun i _ => xs.length - (intOf i).toNat)
    case atStart => exact ⟨0, _, Nat.zero_le _, rfl, hbox, hV3, hR3, hB4⟩
    case round =>
      clear hbox hV3 hR3 hB4
      obtain ⟨k, v, hk, rfl, ⟨hb1, hb2, hb3⟩, hV, hR, hB⟩ := hrel
      have d1 : wr.cell? ⟨w.heap.size, 1, none⟩ = some (.slice a xs.length cap) := by rw [cell_of_heap hV]; rfl
      by_cases hlt : k < xs.length
      · rcases hx.below hB with rfl | ⟨b, off, rfl, hc⟩
        · simp at hlt
        have hcell := hc k hlt
        have hfb := hf.below hB
        have hsn := Lib.hid (take_snoc' xs k hlt)
        have hsn2 := kept_snoc (xs.take k) failed xs[k]
        rw [← hsn.out] at hsn2
        have i1 : (0 : Int) ≤ (k : Int) := by omega
        have i2 : (k : Int) < (xs.length : Int) := by omega
        clear hc
        by_cases hin : xs[k] ∈ failed
        · rw [if_pos hin] at hsn2
          have HS := Lib.hid hsn2
          have hp := place_in hin
          have PL := Lib.hid (place_yes a1 cap1 failed xs[k] wr hm1 hfb hin)
          clear hsn2 hin hfb
          generalize place failed xs[k] = p at *
          go_wp2_with fail
          refine PL.out.mono ?_
          rintro e w6 ⟨rfl, rfl⟩
          go_wp2_with fail
          go_roundw
          case rel => exact ⟨k + 1, v, hlt, by go_num, by rw [HS.out]; exact ⟨hb1, hb2, hb3⟩, hV, hR, hB⟩
          case measure => simp [intOf]; omega
        · rw [if_neg hin] at hsn2
          have HS := Lib.hid hsn2
          have PL := Lib.hid (place_no a1 cap1 failed xs[k] wr hm1 hfb hin)
          clear hsn2 hin hfb
          obtain ⟨ys, hys⟩ : ∃ ys, ys = keptIds (xs.take k) failed := ⟨_, rfl⟩
          have hkl : ys.length ≤ 5 := by rw [hys]; exact Nat.le_trans (kept_len _ _) (by simp; omega)
          rw [← hys] at hb2
          have HYS := Lib.hid hys
          clear hys
          have lO := lt_of_heap hb1
          have lV := lt_of_heap hV
          have c1 : wr.cell? ⟨O, 1, none⟩ = some v := by rw [cell_of_heap hb1]; rfl
          have f1 := frozen_of_heap (o := 1) hb1
          go_wp2_with fail
          refine PL.out.mono ?_
          rintro e w6 ⟨rfl, rfl⟩
          go_wp2_with fail
          go_region_law
            ((refine step_app elem_int (by rfl) _ _ (by rfl) (w.heap.size + 2) v ys.length (ys.map (Value.int .i64)) (by rfl) wr.heap.size 1 1 (by rfl) #[.int .i64 xs[k]] 3 (0, 0) (by rfl) (by simp [Value.oneCell']) (by omega) (by omega) (by omega) (heap_alloc_new wr _) (hb2.alloc _).drew (by simp; omega) ?_); intro gg cap3 w7 hown1 hgrow hat hlt3; have hh7 := heap_kept (o := .cells #[.int .i64 (num + 1), v] 25 (0, 0)) (V := O) (by exact heap_one hb1 _) hgrow hb3; have hc7 := cell_of_heap (o := 1) hh7; have hf7 := frozen_of_heap (o := 1) hh7)
          all_goals
            have HB := box_app (f := 1) hb1 hb2 hb3 (by exact grown_drew (World.grownBy_alloc wr _ none)) hown1 hgrow hat
            clear hown1 hgrow hat hh7 hc7 hf7 c1 f1
            go_wp2_with fail
            go_roundw
            case rel => exact ⟨k + 1, _, hlt, by go_num, by rw [HS.out, ← HYS.out]; exact ⟨by simpa using HB.box, by simpa using HB.own, HB.ne⟩, HB.kept _ _ hV (by omega) (fun e => by have := (hb2.lt _ e).1; omega), HB.kept _ _ hR (by omega) (fun e => by have := (hb2.lt _ e).1; omega), grown_below (HB.grown _ none (below_grown hB none) (by omega) (by omega))⟩
            case measure => simp [intOf]; omega
      · rw [List.take_of_length_le (by omega)] at hb2
        have KL := kept_len xs failed
        have sB := lt_of_heap hR
        have sV := lt_of_heap hV
        go_wp2_with fail
        clear d1
        go_loopw [10] (fun i wr => ∃ (k : Nat) (v : Value), k ≤ fresh.length ∧ i = .int .i64 k ∧ freshOk xs (fresh.take k) = true ∧ ViewBox wr (w.heap.size + 2) O (num + 1) v (keptIds xs failed ++ fresh.take k) ∧ wr.heap[w.heap.size]? = some (.cells #[.int .i64 num, .slice a xs.length cap] 25 (0, 0)) ∧ wr.heap[w.heap.size + 1]? = some (.cells #[.int .i64 0, .slice none 0 0] 25 (0, 0)) ∧ Below w.heap.size w wr) (fun i _ => fresh.length - (intOf i).toNat)
        case atStart => exact ⟨0, v, Nat.zero_le _, rfl, rfl, by simpa using ⟨hb1, hb2, hb3⟩, hV, hR, hB⟩
        case round =>
          clear hb1 hb2 hb3 hR hB hV
          obtain ⟨k, v, hk, rfl, hfo, ⟨hb1, hb2, hb3⟩, hV, hR, hB⟩ := hrel
          have d1 : wr.cell? ⟨w.heap.size, 1, none⟩ = some (.slice a xs.length cap) := by rw [cell_of_heap hV]; rfl
          by_cases hlt : k < fresh.length
          · rcases hn.below hB with rfl | ⟨b, off, rfl, hc⟩
            · simp at hlt
            have hcell := hc k hlt
            have hxb := hx.below hB
            have hsn := Lib.hid (take_snoc' fresh k hlt)
            have hfs := freshOk_snoc xs (fresh.take k) fresh[k]
            rw [← hsn.out, hfo, Bool.true_and] at hfs
            have i1 : (0 : Int) ≤ (k : Int) := by omega
            have i2 : (k : Int) < (fresh.length : Int) := by omega
            clear hc hfo
            by_cases hin : fresh[k] ∈ xs
            · have F := Lib.hid (next_bad2 (num := num) (failed := failed) (freshOk_take (k := k + 1) (by rw [hfs, decide_eq_true hin]; rfl)))
              have hp := place_in hin
              have PL := Lib.hid (fun W h => place_yes a cap xs fresh[k] W hm h hin)
              have c0 : wr.cell? ⟨w.heap.size + 1, 0, none⟩ = some (.int .i64 0) := by rw [cell_of_heap hR]; rfl
              have c1 : wr.cell? ⟨w.heap.size + 1, 1, none⟩ = some (.slice none 0 0) := by rw [cell_of_heap hR]; rfl
              have f0 := frozen_of_heap (o := 0) hR
              have f1 := frozen_of_heap (o := 1) hR
              have hxn := fun m => hxb.drewN m
              clear hfs hin hxb
              generalize place xs fresh[k] = p at *
              go_wp2_with fail
              go_quiet ((go_at_call 48; exact quiet_here (PL.out _ (hxn _))))
              have FIN := Lib.hid (fun n => nexted_bad F.out (below_set (below_set (below_drewN hB n) (p := ⟨w.heap.size + 1, 0, none⟩) (by simp) (.int .i64 0)) (p := ⟨w.heap.size + 1, 1, none⟩) (by simp) (.slice none 0 0)))
              go_wp2_with fail
              exact bodyPost_ret (v := .tuple #[.agg #[.int .i64 0, .slice none 0 0], .bool false]) (by simp [results, Try.results38, go_sem, c0, c1]) rfl (FIN.out _)
            · have HFS := Lib.hid (show freshOk xs (fresh.take (k + 1)) = true by rw [hfs, decide_eq_false hin]; rfl)
              have PL := Lib.hid (fun W h => place_no a cap xs fresh[k] W hm h hin)
              obtain ⟨ys, hys⟩ : ∃ ys, ys = keptIds xs failed ++ fresh.take k := ⟨_, rfl⟩
              rw [← hys] at hb2
              have hkl : ys.length ≤ 100000000 := by rw [hys]; simp; omega
              have HYS := Lib.hid hys
              have lO := lt_of_heap hb1
              have lV := lt_of_heap hV
              have hxn := fun m => hxb.drewN m
              clear hfs hin hxb hys
              go_wp2_with fail
              go_quiet ((go_at_call 48; exact quiet_here (PL.out _ (hxn _))))
              have q1 : (wr.drewN nq).heap[O]? = some (.cells #[.int .i64 (num + 1), v] 25 (0, 0)) := hb1
              have q2 : (wr.drewN nq).ownsRow (w.heap.size + 2) 3 1 v ys.length (ys.map (Value.int .i64)) := hb2
              have q3 : (wr.drewN nq).heap[w.heap.size]? = some (.cells #[.int .i64 num, .slice a xs.length cap] 25 (0, 0)) := hV
              have q4 : (wr.drewN nq).heap[w.heap.size + 1]? = some (.cells #[.int .i64 0, .slice none 0 0] 25 (0, 0)) := hR
              have q5 := below_drewN hB nq
              have hcell' : (wr.drewN nq).cell? ⟨b, off + k, none⟩ = some (.int .i64 (fresh.getD k 0)) := hcell
              have lO : O < (wr.drewN nq).heap.size := lO
              clear hxn hb1 hb2 hV hR hB d1 hcell lV
              generalize wr.drewN nq = w6 at *
              have c1 : w6.cell? ⟨O, 1, none⟩ = some v := by rw [cell_of_heap q1]; rfl
              have f1 := frozen_of_heap (o := 1) q1
              simp only [List.getD, List.getElem?_eq_getElem hlt, Option.getD_some] at hcell'
              go_wp2_with fail
              go_region_law
                ((refine step_app elem_int (by rfl) _ _ (by rfl) (w.heap.size + 2) v ys.length (ys.map (Value.int .i64)) (by rfl) w6.heap.size 1 1 (by rfl) #[.int .i64 fresh[k]] 3 (0, 0) (by rfl) (by simp [Value.oneCell']) (by omega) (by omega) (by omega) (heap_alloc_new w6 _) (q2.alloc _).drew (by simp; omega) ?_); intro gg cap3 w7 hown1 hgrow hat hlt3; have hh7 := heap_kept (o := .cells #[.int .i64 (num + 1), v] 25 (0, 0)) (V := O) (by exact heap_one q1 _) hgrow hb3; have hc7 := cell_of_heap (o := 1) hh7; have hf7 := frozen_of_heap (o := 1) hh7)
              all_goals
                have HB := box_app (f := 1) q1 q2 hb3 (by exact grown_drew (World.grownBy_alloc w6 _ none)) hown1 hgrow hat
                clear hown1 hgrow hat hh7 hc7 hf7 c1 f1
                go_wp2_with fail
                go_roundw
                case rel => exact ⟨k + 1, _, hlt, by go_num, HFS.out, by rw [hsn.out, ← List.append_assoc, ← HYS.out]; exact ⟨by simpa using HB.box, by simpa using HB.own, HB.ne⟩, HB.kept _ _ q3 (by omega) (fun e => by have := (q2.lt _ e).1; omega), HB.kept _ _ q4 (by omega) (fun e => by have := (q2.lt _ e).1; omega), grown_below (HB.grown _ none (below_grown q5 none) (by omega) (by omega))⟩
                case measure => simp [intOf]; omega
          · rw [List.take_of_length_le (by omega)] at hfo hb2
            have HFO := Lib.hid hfo
            clear hfo
            obtain ⟨ys, hys⟩ : ∃ ys, ys = keptIds xs failed ++ fresh := ⟨_, rfl⟩
            rw [← hys] at hb2
            have hL : ys.length ≤ 1099511627776 := by rw [hys]; simp; omega
            obtain ⟨a', cap', rfl, hia⟩ := own_form hb2
            have HYS := Lib.hid hys
            clear hys
            have c0 : wr.cell? ⟨O, 0, none⟩ = some (.int .i64 (num + 1)) := by rw [cell_of_heap hb1]; rfl
            have c1 : wr.cell? ⟨O, 1, none⟩ = some (.slice a' ys.length cap') := by rw [cell_of_heap hb1]; rfl
            have lO := lt_of_heap hb1
            go_wp2_with fail
            refine (specViewValid_calls _ _ _ _ _ hL hia).mono ?_
            rintro e w8 ⟨rfl, hb8⟩
            have hB8 : Below w.heap.size w w8 := hB.trans (hb8.mono (by omega))
            have hR8 := (hb8.block _ (by omega)).trans hR
            have hO8 := (hb8.block _ (by omega)).trans hb1
            have hw8 := hb2.kept (below_grown hb8 none) (by cases a' <;> simp [Value.ownBlock])
            have r0 : w8.cell? ⟨w.heap.size + 1, 0, none⟩ = some (.int .i64 0) := by rw [cell_of_heap hR8]; rfl
            have r1 : w8.cell? ⟨w.heap.size + 1, 1, none⟩ = some (.slice none 0 0) := by rw [cell_of_heap hR8]; rfl
            have f0 := frozen_of_heap (o := 0) hR8
            have f1 := frozen_of_heap (o := 1) hR8
            have c0' : w8.cell? ⟨O, 0, none⟩ = some (.int .i64 (num + 1)) := by rw [cell_of_heap hO8]; rfl
            have c1' : w8.cell? ⟨O, 1, none⟩ = some (.slice a' ys.length cap') := by rw [cell_of_heap hO8]; rfl
            clear hb1 hb2 hb3 hR hB hia c0 c1 hb8 hO8 hV d1
            cases hv2 : viewOk (num + 1) ys with
            | false =>
              have FIN := Lib.hid (nexted_bad (next_bad3 (xs := xs) (failed := failed) (fresh := fresh) (by rw [← HYS.out]; exact hv2)) (below_set (below_set hB8 (p := ⟨w.heap.size + 1, 0, none⟩) (by simp) (.int .i64 0)) (p := ⟨w.heap.size + 1, 1, none⟩) (by simp) (.slice none 0 0)))
              go_wp2_with fail
              exact bodyPost_ret (v := .tuple #[.agg #[.int .i64 0, .slice none 0 0], .bool false]) (by simp [results, Try.results38, go_sem, r0, r1]) rfl FIN.out
            | true =>
              have FIN := Lib.hid (nexted_good (next_good (fresh := fresh) HV.out HFO.out (by rw [← HYS.out]; exact hv2)) HYS.out hw8 hB8)
              go_wp2_with fail
              exact bodyPost_ret (v := .tuple #[.agg #[.int .i64 (num + 1), .slice a' ys.length cap'], .bool true]) (by simp [results, Try.results38, go_sem, r0, r1]) rfl FIN.out

end Go.Proofs.Ytkbckgnkbnakkaa
