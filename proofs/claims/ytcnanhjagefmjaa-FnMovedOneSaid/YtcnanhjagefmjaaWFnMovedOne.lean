
/-
  The walk of FnMovedOne.
-/
import Derived.Test.YtcnanhjagefmjaaX12
import Derived.Test.YtcnanhjagefmjaaX13
namespace Go.Proofs.Ytcnanhjagefmjaa.fnMovedOne
open Go.RowKit Go.Proofs.Ytcnanhjagefmjaa

set_option maxRecDepth 100000 in
set_option maxHeartbeats 4000000 in
theorem walk (a0 : Option Addr) (len0 cap0 : Nat) (z0 : List Int) (a1 : Option Addr) (len1 cap1 : Nat) (z1 : List Int) (w : World) (w0 : IsRow .u8 w a0 len0 cap0 z0) (w1 : IsRow .u8 w a1 len1 cap1 z1) :
    Calls Try.prog 5 #[.slice a0 len0 cap0, .slice a1 len1 cap1] w fun e w' => e = .returned (.bool true) ∧ Below w.heap.size w w' := by
  have hle := w0.le
  have hby := w0.bytes
  have hle1 := w1.le
  clear w0 w1
  have mle : maxLen ≤ 9223372036854775807 := by unfold maxLen; omega
  by_cases hbig : len0 ≤ 1048576
  · by_cases hbig1 : len1 ≤ 1048576
    · go_enter Try.func5, Try.ntmps5
      go_wp2_with fail
      with_reducible refine (drawPlaceMoved_calls _ _ _ _ hle.1 hle.2 hby).mono ?_
      rintro e w1 ⟨p, a1', a2, c1, c2, xs, ys, m, rfl, hx8, hy8, s1⟩
      go_wp2_with fail
      with_reducible refine (placeMoved_calls p a1' c1 xs a2 c2 ys m w1 (by omega) (by omega) (own_intsR s1.own) (own_intsR s1.at1.own)).mono ?_
      rintro e w2 ⟨rfl, hb2⟩
      have s2 := s1.call hb2
      go_wp2_with fail
      with_reducible refine (specPlaceMoved_calls p a1' c1 xs a2 c2 ys m w2 (by omega) (by omega) (own_intsR s2.own) (own_intsR s2.at1.own)).mono ?_
      rintro e w3 ⟨rfl, hb3⟩
      have s3 := s2.call hb3
      clear s1 s2 hb2 hb3
      by_cases hneg : movedR p xs ys m < 0
      · generalize movedR p xs ys m = r at *
        go_wp2_with fail
        go_ret
        exact ⟨rfl, s3.below⟩
      · have h0 : 0 ≤ movedR p xs ys m := by omega
        have OK := Lib.hid (moved_oks h0).1
        generalize movedR p xs ys m = r at *
        have hd0 : decide (r < 0) = false := decide_eq_false hneg
        by_cases hml : m = xs.length
        · have hm2 : (m == (xs.length : Int)) = true := by simpa using hml
          clear OK hml
          go_wp2_with fail
          go_ret
          exact ⟨rfl, s3.below⟩
        · have hm2 : (m == (xs.length : Int)) = false := by simpa using hml
          have hx0 : 0 < xs.length := by have := placeOk_iff.1 OK.out; omega
          obtain ⟨k, e1, e2, hk⟩ : ∃ k : Nat, (len1 : Int) % (xs.length : Int) = k ∧ (len1 : Int).tmod (xs.length : Int) = k ∧ k < xs.length := ⟨len1 % xs.length, by omega, by rw [Int.tmod_eq_emod_of_nonneg (by omega)]; omega, Nat.mod_lt _ hx0⟩
          have ONE := Lib.hid (moved_one OK.out hml hk)
          obtain ⟨g, c', e, _, _⟩ := s3.own.form hx0
          cases e
          have hcap := own_cap s3.own
          have hsl : ∀ w, (Instr.slice 22 (.slice (some ⟨g, 0, none⟩) xs.length c1) (some (.int .i64 ((k : Int) + 1))) none none).run Try.prog w = .ok (.slice (cutAt (some ⟨g, 0, none⟩) c1 (k + 1) 1) (xs.length - (k + 1)) (c1 - (k + 1))) w := by
            have := run_from (P := Try.prog) 22 3 1 (some ⟨g, 0, none⟩) xs.length c1 (k + 1) Try.underlying22 info_int1 (by omega)
            simpa using this
          have CC := Lib.hid (fun W R (s : St w W (row (.slice (some ⟨g, 0, none⟩) xs.length c1) 3 1 xs.length (xs.map (Value.int .i64)) :: R)) => by
            have := cells_from (own_cellsR s.own) c1 (k + 1) 1 (by simp; omega)
            rw [Nat.mul_one, ← List.map_drop] at this
            exact this)
          have CT := Lib.hid (fun W R (s : St w W (row (.slice (some ⟨g, 0, none⟩) xs.length c1) 3 1 xs.length (xs.map (Value.int .i64)) :: R)) => by
            have := (s.rowTake k (by omega)).own
            rw [Nat.mul_one, ← List.map_take] at this
            exact own_cellsR this)
          have i1 : (0 : Int) ≤ (k : Int) := by omega
          have i2 : (k : Int) ≤ (xs.length : Int) := by omega
          have i3 : (k : Int) ≤ (c1 : Int) := by omega
          have hxz : (xs.length : Int) ≠ 0 := by omega
          obtain ⟨S, hS⟩ := Mix.named (fun _ => True)
          have SO := Lib.hid (fun W => (hS W).2 trivial)
          clear hS OK hml
          have hys : (xs.take k ++ xs.drop (k + 1)).length ≤ 8 := by simp; omega
          have htk : (xs.take k).length = k := by simp; omega
          have hdk : (xs.drop (k + 1)).length = xs.length - (k + 1) := by simp
          have HTK := Lib.hid htk
          have HDK := Lib.hid hdk
          clear htk hdk
          go_wp2_with fail
          have sD := s3.drew
          clear s3
          refine Mix.start S 14 (by kernel_rfl) ?_
          refine Mix.take [0, 1, 3, 4, 5, 7, 8, 9, 10, 12] 5 (by kernel_rfl) (by kernel_rfl) (by kernel_rfl) (by intro c a a' w e h; exact ⟨e.symm.trans h.1, h.2⟩) (SO.out _) ?_
          intro hne
          simp only [Mix.pickOps, List.filterMap_cons, List.filterMap_nil, List.getElem?_toArray, List.getElem?_cons_zero, List.getElem?_cons_succ]
          repeat (refine Mix.cons_form ?_; go_big_quiet_step (fail))
          refine wpQuiet_nil ?_
          clear hne
          refine Mix.step (i := 2) (by kernel_rfl) rfl rfl ?_
          have s4 := (sD.alloc (.cells #[] 3)).madeRow 1 0 rfl (by simp [maxLen]) 0 (Nat.le_refl _)
          simp only [List.take_nil] at s4
          go_simp
          refine And.intro (SO.out _) ?_
          refine Mix.step (i := 6) (by kernel_rfl) rfl rfl ?_
          refine wp_appV elem_int _ _ (by rfl) w.heap.size _ 0 [] (by rfl) _ k c1 (by rfl) ((xs.take k).map (Value.int .i64)) (by rw [List.length_map, HTK.out]; omega) (oneCells _) (by omega) (by omega) (CT.out _ _ s4.at1) s4.own s4.size ?_
          intro v5 w5 hown hgrow hat hl
          have s5 := s4.appV (grown_refl _ _) hown hgrow hat hl
          simp only [Nat.zero_add, List.nil_append] at s5
          refine And.intro (.inr (SO.out _)) ?_
          clear hown hgrow hat hl s4 sD
          obtain ⟨v5a, v5c, rfl, _⟩ := own_cells s5.own
          go_simp
          refine Mix.step (i := 11) (by kernel_rfl) rfl rfl ?_
          refine wp_appV elem_int _ _ (by rfl) w.heap.size _ k ((xs.take k).map (Value.int .i64)) (by rfl) _ (xs.length - (k + 1)) (c1 - (k + 1)) (by rfl) ((xs.drop (k + 1)).map (Value.int .i64)) (by rw [List.length_map, HDK.out]; omega) (oneCells _) (by omega) (by omega) (CC.out _ _ s5.at1) s5.own s5.size ?_
          intro v6 w6 hown hgrow hat hl
          have s6 := s5.appV (grown_refl _ _) hown hgrow hat hl
          simp only [← List.map_append] at s6
          rw [show k + (xs.length - (k + 1)) = (xs.take k ++ xs.drop (k + 1)).length by rw [List.length_append, HTK.out, HDK.out]] at s6
          refine And.intro (.inr (SO.out _)) ?_
          clear hown hgrow hat hl s5 hsl CC CT
          generalize xs.take k ++ xs.drop (k + 1) = zs at *
          obtain ⟨v6a, v6c, rfl, _⟩ := own_cells s6.own
          go_simp
          refine Mix.step (i := 13) (by kernel_rfl) rfl rfl ?_
          go_simp
          refine (placeMoved_calls p (some ⟨g, 0, none⟩) c1 xs v6a v6c zs m w6 (by omega) (by omega) (own_intsR s6.at1.own) (own_intsR s6.own)).mono ?_
          rintro e w7 ⟨rfl, hb7⟩
          have s7 := s6.call hb7
          refine And.intro (SO.out _) ?_
          clear s6 hb7
          generalize movedR p xs zs m = t at *
          go_simp
          refine Mix.step (i := 14) (by kernel_rfl) rfl rfl ?_
          go_simp
          refine Mix.done (by kernel_rfl) ?_
          have FIN := Lib.hid s7.below
          clear s7
          rcases ONE.out with rfl | rfl
          · go_wp2_with fail
            go_ret
            exact ⟨rfl, FIN.out⟩
          · go_wp2_with fail
            go_ret
            exact ⟨rfl, FIN.out⟩
    · go_enter Try.func5, Try.ntmps5
      go_wp2_with fail
      go_ret
      exact ⟨rfl, Below.refl _ _⟩
  · go_enter Try.func5, Try.ntmps5
    go_wp2_with fail
    go_ret
    exact ⟨rfl, Below.refl _ _⟩

end Go.Proofs.Ytcnanhjagefmjaa.fnMovedOne
