
/-
  The walk of the draw of servers. No statement is proved here.
-/
import Derived.Test.YtebklbncfcdkmaaOc
import Derived.Test.YtebklbncfcdkmaaR1
import Derived.Test.YtebklbncfcdkmaaMf
namespace Go.Proofs.Ytebklbncfcdkmaa
open Go.RowKit

theorem rem_num {k : Nat} (h1 : 1 ≤ k) (h : k ≤ 12) : ∃ r : Int, ((k : Int) * 7) % 90 = r ∧ ((k : Int) * 7).tmod 90 = r ∧ 0 ≤ r ∧ r ≤ 90 :=
  ⟨_, rfl, by rw [Int.tmod_eq_emod_of_nonneg (by omega)], by omega, by omega⟩

set_option maxRecDepth 100000 in
set_option maxHeartbeats 4000000 in
theorem servers_st {w0 w : World} {rs : List Res} (b m : Nat) (h : St w0 w (rd w0 b m :: rs)) (hm : m ≤ 1000) :
    Calls Try.prog 24 #[.pointer (some ⟨b, 0, none⟩)] w fun e w' => ∃ (v : Value) (xs : List Int), e = .returned v ∧ xs.length ≤ 8 ∧ St w0 w' (row v 3 1 xs.length (xs.map (Value.int .i64)) :: rd w0 b (m + 14) :: rs) := by
  have s0 := (h.alloc (.cells #[] 3)).madeRow 1 0 rfl (by simp [maxLen]) 0 (Nat.le_refl _)
  simp only [List.take_nil] at s0
  clear h
  go_enter Try.func24, Try.ntmps24
  go_wp2_with fail
  generalize hw1 : w.alloc (.cells #[] 3 (0, 0)) = w1 at *
  generalize w.heap.size = B1 at *
  clear hw1
  go_loopw [3, 4] (fun v i wr => ∃ (k : Nat) (xs : List Int), 1 ≤ k ∧ k ≤ 12 ∧ i = .int .i64 k ∧ xs.length ≤ 8 ∧ St w0 wr (row v 3 1 xs.length (xs.map (Value.int .i64)) :: rd w0 b (m + k) :: rs)) (fun _ i _ => 12 - (intOf i).toNat)
  case atStart => exact ⟨1, [], Nat.le_refl _, by omega, rfl, by simp, (s0.at1.rdMono (by omega)).at1⟩
  case round =>
    clear s0
    obtain ⟨k, xs, hk1, hk, rfl, hl8, s1⟩ := hrel
    obtain ⟨va, vc, rfl, _⟩ := s1.ints
    by_cases hlt : k < 12
    · go_wp2_with fail
      refine (pick_st b (m + k) 2 s1.at1 (by omega) (by omega)).mono ?_
      rintro e w5 ⟨q, rfl, q0, q1, s5⟩
      have s5 := s5.at1
      clear s1
      by_cases hq : q = 0
      · subst hq
        by_cases h8 : xs.length < 8
        · obtain ⟨r, e1, e2, r0, r1⟩ := rem_num hk1 hk
          have o5 := s5.own
          have lR := s5.size
          go_wp2_with ((at_builtin; refine list_app elem_int (by rfl) _ _ (by rfl) w0.heap.size (.slice va xs.length vc) xs.length (xs.map (Value.int .i64)) (by rfl) w5.heap.size 1 1 (by rfl) #[.int .i64 (r + k)] 3 (0, 0) (by rfl) (by simp [Value.oneCell']) (by omega) (by omega) (by omega) (heap_alloc_new w5 _) (o5.alloc _) (by simp; omega) ?_); intro gg cap3 w7 hown hgrow hat hl)
          have s7 := s5.app (World.grownBy_alloc w5 _ none) hown hgrow hat hl
          clear hown hgrow hat hl s5 o5 e1 e2
          go_wp2_with fail
          go_roundw
          case rel => exact ⟨k + 1, xs ++ [r + k], by omega, hlt, by go_num, by simp; omega, by rw [← Nat.add_assoc]; simpa using s7⟩
          case measure => simp [intOf]; omega
        · have hd8 : decide (xs.length < 8) = false := decide_eq_false h8
          go_wp2_with fail
          go_roundw
          case rel => exact ⟨k + 1, xs, by omega, hlt, by go_num, hl8, s5⟩
          case measure => simp [intOf]; omega
      · have hq' : (q == 0) = false := by simpa using hq
        clear hq
        go_wp2_with fail
        go_roundw
        case rel => exact ⟨k + 1, xs, by omega, hlt, by go_num, hl8, s5⟩
        case measure => simp [intOf]; omega
    · have s2 := (s1.at1.rdMono (show m + k ≤ m + 12 by omega)).at1
      clear s1
      go_wp2_with fail
      go_loopw [5] (fun i wr => ∃ (j : Nat), i = .int .i64 ((j : Int) + 1) ∧ j ≤ xs.length ∧ St w0 wr (row (.slice va xs.length vc) 3 1 xs.length (xs.map (Value.int .i64)) :: rd w0 b (m + 12) :: rs)) (fun i _ => xs.length + 1 - (intOf i).toNat)
      case atStart => exact ⟨0, rfl, Nat.zero_le _, s2⟩
      case round =>
        clear s2
        obtain ⟨j, rfl, hj, s3⟩ := hrel
        by_cases hlt2 : j + 1 < xs.length
        · obtain ⟨g, c', e, _, _⟩ := s3.own.form (by omega)
          cases e
          have ca := s3.own.cellAt j (by simp; omega)
          have cb := s3.own.cellAt (j + 1) (by simp; omega)
          rw [List.getElem?_map, List.getElem?_eq_getElem (by omega)] at ca
          rw [List.getElem?_map, List.getElem?_eq_getElem hlt2] at cb
          simp only [Option.map_some] at ca cb
          generalize xs[j] = y at *
          generalize xs[j + 1] = z at *
          have i1 : (0 : Int) ≤ (j : Int) := by omega
          have i2 : (j : Int) < (xs.length : Int) := by omega
          have i3 : (0 : Int) ≤ (j : Int) + 1 := by omega
          have i4 : (j : Int) + 1 < (xs.length : Int) := by omega
          have i5 : ((j : Int) + 1).toNat = j + 1 := by omega
          go_wp2_with fail
          go_quiet (fail)
          by_cases hz : z ≤ y
          · have hd : decide (z ≤ y) = true := decide_eq_true hz
            have s4 := (((s3.drewN nq).alloc (.cells #[.int .i64 3, .int .i64 5, .int .i64 8, .int .i64 20] 3)).madeRow 1 4 rfl (by simp [maxLen]) 4 (Nat.le_refl _)).at1.drop
            have FIN := Lib.hid ((s4.at1.rdMono (show m + 12 ≤ m + 14 by omega)).at1)
            clear s3 s4
            go_wp2_with fail
            exact bodyPost_ret (v := .slice (some ⟨wr.heap.size, 0, none⟩) 4 4) (by simp [results, Try.results24, go_sem]) rfl ⟨_, rfl, [3, 5, 8, 20], by simp, by simpa using FIN.out⟩
          · have hd : decide (z ≤ y) = false := decide_eq_false hz
            go_wp2_with fail
            go_roundw
            case rel => exact ⟨j + 1, by simp, by omega, s3.drewN nq⟩
            case measure => simp [intOf]; omega
        · by_cases h0 : 0 < xs.length
          · go_wp2_with fail
            refine (pick_st b (m + 12) 24 s3.at1 (by omega) (by omega)).mono ?_
            rintro e w5 ⟨q, rfl, q0, q1, s5⟩
            have s5 := s5.at1
            clear s3
            by_cases hq : q = 0
            · subst hq
              obtain ⟨L, hL⟩ : ∃ L, xs.length = L + 1 := ⟨xs.length - 1, by omega⟩
              obtain ⟨g, c', e, _, _⟩ := s5.own.form h0
              cases e
              rw [hL] at s5
              obtain ⟨x0, hx0⟩ : ∃ x0 : Int, xs[0] = x0 := ⟨_, rfl⟩
              have ca := s5.own.cellAt 0 (by simp)
              rw [List.getElem?_map, List.getElem?_eq_getElem h0, hx0] at ca
              simp only [Option.map_some] at ca
              obtain ⟨S, hS⟩ := Mix.named (fun w' => w'.cell? ⟨g, 0, none⟩ = some (.int .i64 x0))
              have HS := Lib.hid hS
              have e0 := Mix.held_cell (fun w h => (hS w).1 h)
              clear hS
              have SO := Lib.hid (fun W R (s : St w0 W (row (.slice (some ⟨g, 0, none⟩) (L + 1) vc) 3 1 (L + 1) (xs.map (Value.int .i64)) :: R)) => by
                have a0 := s.own.cellAt 0 (by simp)
                rw [List.getElem?_map, List.getElem?_eq_getElem h0, hx0] at a0
                exact (HS.out W).2 a0)
              have SET := Lib.hid (fun W R (x : Int) (s : St w0 W (row (.slice (some ⟨g, 0, none⟩) (L + 1) vc) 3 1 (L + 1) (xs.map (Value.int .i64)) :: R)) => by
                have q := s.rowSet L (.int .i64 x)
                rw [← List.map_set] at q
                exact q)
              clear hx0
              go_wp2_with fail
              have s6 := s5.drew
              have FINX := Lib.hid (fun W (x : Int) (s : St w0 W (row (.slice (some ⟨g, 0, none⟩) (L + 1) vc) 3 1 (L + 1) (xs.map (Value.int .i64)) :: rd w0 b (m + 14) :: rs)) => SET.out W _ x s)
              have i1 : (0 : Int) ≤ (L : Int) := by omega
              have i2 : (L : Int) < (L : Int) + 1 := by omega
              have HL := Lib.hid hL
              clear s5
              refine Mix.start S 13 (by kernel_rfl) ?_
              refine Mix.take [0, 1, 2, 3, 4, 5, 6, 8] 6 (by kernel_rfl) (by kernel_rfl) (by kernel_rfl) (by intro c a a' w e h; exact ⟨e.symm.trans h.1, h.2⟩) (SO.out _ _ s6) ?_
              intro hne
              simp only [Mix.pickOps, List.filterMap_cons, List.filterMap_nil, List.getElem?_toArray, List.getElem?_cons_zero, List.getElem?_cons_succ]
              repeat (refine Mix.cons_form ?_; go_big_quiet_step (fail))
              refine wpQuiet_nil ?_
              clear hne
              refine Mix.fork (i := 7) (j := 9) (by kernel_rfl) rfl rfl rfl rfl ?_ ?_
              focus
                go_simp
                have s7 := s6.alloc (.cells #[.int .i64 0, .int .i64 100, .int .i64 x0] 3)
                refine And.intro (SO.out _ _ s7.at1) ?_
                refine Mix.step (i := 9) (by kernel_rfl) rfl rfl ?_
                go_simp
                refine (pick_st b (m + 12 + 1) 3 s7.at2 (by omega) (by omega)).mono ?_
                rintro e w9 ⟨q, rfl, q0, q1, s8⟩
                have s9 := s8.to2.at1
                refine And.intro (SO.out _ _ s9) ?_
                simp only [show w5.drew.heap.size = w5.heap.size from rfl] at s9
                generalize w5.heap.size = NB at *
                clear s6 s7 s8
              rotate_left
              focus
                go_simp
                refine (pick_st b (m + 12 + 1) 3 s6.at1 (by omega) (by omega)).mono ?_
                rintro e w8 ⟨q, rfl, q0, q1, s8⟩
                have s8 := s8.at1
                refine And.intro (SO.out _ _ s8) ?_
                refine Mix.step (i := 7) (by kernel_rfl) rfl rfl ?_
                have s9 := (s8.alloc (.cells #[.int .i64 0, .int .i64 100, .int .i64 x0] 3)).at1
                go_simp
                refine And.intro (SO.out _ _ s9) ?_
                generalize w8.alloc (.cells #[.int .i64 0, .int .i64 100, .int .i64 x0] 3 (0, 0)) = w9 at *
                generalize w8.heap.size = NB at *
                clear s6 s8
              all_goals
                have q2 := q1 (by omega)
                clear q1
                obtain ⟨d9, _⟩ := s9.at1.cells
                have k0 := d9 0
                have k1 := d9 1
                have k2 := d9 2
                simp at k0 k1 k2
                have f9 := s9.own.frozenAt L
                obtain ⟨u9, hu9⟩ : ∃ u, w9.cell? ⟨g, L, none⟩ = some u := ⟨_, (s9.own.cellAt L (by simp)).trans (List.getElem?_eq_getElem (by simp; omega))⟩
                have SOO := Lib.hid (SO.out _ _ s9)
                have ST := Lib.hid (fun x => (FINX.out _ x (s9.at1.drop.at1.rdMono (show m + 12 + 1 + 1 ≤ m + 14 by omega)).at1))
                clear d9 s9
                rcases (show q = 0 ∨ q = 1 ∨ q = 2 by omega) with rfl | rfl | rfl
                all_goals
                  refine Mix.step (i := 10) (by kernel_rfl) rfl rfl ?_
                  go_simp
                  refine And.intro SOO.out ?_
                  refine Mix.step (i := 11) (by kernel_rfl) rfl rfl ?_
                  go_simp
                  refine And.intro SOO.out ?_
                  refine Mix.step (i := 12) (by kernel_rfl) rfl rfl ?_
                  go_simp
                  refine And.intro SOO.out ?_
                  refine Mix.step (i := 13) (by kernel_rfl) rfl rfl ?_
                  go_simp
                  refine Mix.done (by kernel_rfl) ?_
                  go_wp2_with fail
                  refine bodyPost_ret (v := .slice (some ⟨g, 0, none⟩) (L + 1) vc) (by simp [results, Try.results24, go_sem]) rfl ?_
                  first
                    | exact ⟨_, xs.set L 0, rfl, by rw [List.length_set]; exact hl8, by rw [List.length_set, HL.out]; exact ST.out 0⟩
                    | exact ⟨_, xs.set L 100, rfl, by rw [List.length_set]; exact hl8, by rw [List.length_set, HL.out]; exact ST.out 100⟩
                    | exact ⟨_, xs.set L x0, rfl, by rw [List.length_set]; exact hl8, by rw [List.length_set, HL.out]; exact ST.out x0⟩
            · have hq' : (q == 0) = false := by simpa using hq
              have FIN := Lib.hid ((s5.at1.rdMono (show m + 12 + 1 ≤ m + 14 by omega)).at1)
              clear hq s5
              go_wp2_with fail
              go_ret
              exact ⟨_, xs, rfl, hl8, FIN.out⟩
          · have FIN := Lib.hid ((s3.at1.rdMono (show m + 12 ≤ m + 14 by omega)).at1)
            clear s3
            go_wp2_with fail
            go_ret
            exact ⟨_, xs, rfl, hl8, FIN.out⟩

end Go.Proofs.Ytebklbncfcdkmaa
