
/-
  The walks of the draws of places and of plans. No statement is proved here.
-/
import Derived.Test.YtebklbncfcdkmaaX10
import Derived.Test.YtebklbncfcdkmaaAp
import Derived.Test.YtebklbncfcdkmaaXr
namespace Go.Proofs.Ytebklbncfcdkmaa
open Go.RowKit

theorem St.fin4 {w0 w : World} {rs : List Res} {x r d y : Res} (h : St w0 w (x :: r :: d :: y :: rs)) : St w0 w (x :: y :: d :: r :: rs) :=
  h.under (fun h => h.at2.under St.at1 (by simp [or_left_comm])) (by intro z; simp only [List.mem_cons]; rintro (h | h | h | h) <;> simp [h])

set_option maxRecDepth 100000 in
set_option maxHeartbeats 4000000 in
theorem plan_st {w0 w : World} {rs : List Res} (b : Nat) (h : St w0 w (rd w0 b 0 :: rs)) :
    Calls Try.prog 11 #[.pointer (some ⟨b, 0, none⟩)] w fun e w' => ∃ (v1 v2 v3 : Value) (xs ys zs : List Int) (q : Int), e = .returned (.tuple #[v1, v2, v3, .int .i64 q]) ∧ xs.length ≤ 6 ∧ ys.length ≤ 8 ∧ zs.length ≤ 8 ∧ 1 ≤ q ∧ q ≤ 3 ∧ St w0 w' (row v1 3 1 xs.length (xs.map (Value.int .i64)) :: row v2 3 1 ys.length (ys.map (Value.int .i64)) :: row v3 3 1 zs.length (zs.map (Value.int .i64)) :: rd w0 b 100 :: rs) := by
  have s0 := (h.alloc (.cells #[] 3)).madeRow 1 0 rfl (by simp [maxLen]) 0 (Nat.le_refl _)
  simp only [List.take_nil] at s0
  clear h
  go_enter Try.func11, Try.ntmps11
  go_wp2_with fail
  refine (pick_st b 0 6 s0.at1 (by omega) (by omega)).mono ?_
  rintro e w1 ⟨N, rfl, N0, N1, s1⟩
  have N2 := N1 (by omega)
  obtain ⟨n, rfl⟩ := Int.eq_ofNat_of_zero_le N0
  have s1 := s1.at1
  have hn6 : n < 6 := by omega
  clear s0 N0 N1 N2
  generalize w.heap.size = B0 at *
  go_wp2_with fail
  go_loopw [6, 7, 9] (fun v p i wr => ∃ (k : Nat) (P : Int) (xs : List Int), k ≤ n ∧ i = .int .i64 k ∧ p = .int .i64 P ∧ 1 ≤ P ∧ P ≤ 1 + 10 * k ∧ xs.length = k ∧ St w0 wr (row v 3 1 xs.length (xs.map (Value.int .i64)) :: rd w0 b (1 + k) :: rs)) (fun _ _ i _ => n - (intOf i).toNat)
  case atStart => exact ⟨0, 1, [], Nat.zero_le _, rfl, rfl, by omega, by omega, rfl, s1⟩
  case round =>
    clear s1
    obtain ⟨k, P, xs, hk, rfl, rfl, hP0, hP1, hxk, s1⟩ := hrel
    obtain ⟨va, vc, rfl, _⟩ := s1.ints
    have hx6 : xs.length ≤ 6 := by omega
    by_cases hlt : k < n
    · have HXK := Lib.hid hxk
      clear hxk
      go_wp2_with fail
      refine (pick_st b (1 + k) 9 s1.at1 (by omega) (by omega)).mono ?_
      rintro e w5 ⟨q, rfl, q0, q1, s5⟩
      have q2 := q1 (by omega)
      have s5 := s5.at1
      clear s1 q1
      have o5 := s5.own
      have lR := s5.size
      go_wp2_with ((at_builtin; refine list_app elem_int (by rfl) _ _ (by rfl) w0.heap.size (.slice va xs.length vc) xs.length (xs.map (Value.int .i64)) (by rfl) w5.heap.size 1 1 (by rfl) #[.int .i64 (P + 1 + q)] 3 (0, 0) (by rfl) (by simp [Value.oneCell']) (by omega) (by omega) (by omega) (heap_alloc_new w5 _) (o5.alloc _) (by simp; omega) ?_); intro gg cap3 w7 hown hgrow hat hl)
      have s7 := s5.app (World.grownBy_alloc w5 _ none) hown hgrow hat hl
      clear hown hgrow hat hl s5 o5
      go_wp2_with fail
      go_roundw
      case rel => exact ⟨k + 1, P + 1 + q, xs ++ [P + 1 + q], hlt, by go_num, rfl, by omega, by omega, by simp [HXK.out], by rw [← Nat.add_assoc]; simpa using s7⟩
      case measure => simp [intOf]; omega
    · have HXK := Lib.hid (show xs.length = n by omega)
      clear hxk
      have s2 := s1.at1.rdMono (show 1 + k ≤ 6 by omega)
      clear s1
      go_wp2_with fail
      refine (servers_st b 6 s2 (by omega)).mono ?_
      rintro e w2 ⟨v2, ys, rfl, hy8, s3⟩
      obtain ⟨ua, uc, rfl, _⟩ := s3.ints
      have s4 := (s3.alloc (.cells #[] 3)).madeRow 1 0 rfl (by simp [maxLen]) 0 (Nat.le_refl _)
      simp only [List.take_nil] at s4
      clear s2 s3
      go_wp2_with fail
      generalize hw4 : w2.alloc (.cells #[] 3 (0, 0)) = w4 at *
      generalize w2.heap.size = B2 at *
      clear hw4
      go_loopw [11, 12] (fun v i wr => ∃ (j : Nat) (zs : List Int), j ≤ ys.length ∧ i = .int .i64 j ∧ zs.length ≤ j ∧ St w0 wr (row v 3 1 zs.length (zs.map (Value.int .i64)) :: row (.slice ua ys.length uc) 3 1 ys.length (ys.map (Value.int .i64)) :: rd w0 b (20 + j) :: row (.slice va xs.length vc) 3 1 xs.length (xs.map (Value.int .i64)) :: rs)) (fun _ i _ => ys.length - (intOf i).toNat)
      case atStart => exact ⟨0, [], Nat.zero_le _, rfl, by simp, s4⟩
      case round =>
        clear s4
        obtain ⟨j, zs, hj, rfl, hzj, s5⟩ := hrel
        obtain ⟨za, zc, rfl, _⟩ := s5.ints
        have hz8 : zs.length ≤ 8 := by omega
        by_cases hlt2 : j < ys.length
        · go_wp2_with fail
          refine (pick_st b (20 + j) 4 s5.at2 (by omega) (by omega)).mono ?_
          rintro e w6 ⟨q, rfl, q0, q1, s6⟩
          have s6 := s6.to2
          clear s5 q1
          by_cases hq : q = 0
          · subst hq
            obtain ⟨gu, c', e, _, _⟩ := s6.at1.own.form (by omega)
            cases e
            have hc := s6.at1.own.cellAt j (by simp; omega)
            simp only [List.getElem?_map, List.getElem?_eq_getElem hlt2, Option.map_some] at hc
            have i1 : (0 : Int) ≤ (j : Int) := by omega
            have i2 : (j : Int) < (ys.length : Int) := by omega
            generalize ys[j] = y at *
            have o5 := s6.own
            have lR := s6.size
            go_wp2_with ((at_builtin; refine list_app elem_int (by rfl) _ _ (by rfl) w0.heap.size (.slice za zs.length zc) zs.length (zs.map (Value.int .i64)) (by rfl) w6.heap.size 1 1 (by rfl) #[.int .i64 y] 3 (0, 0) (by rfl) (by simp [Value.oneCell']) (by omega) (by omega) (by omega) (heap_alloc_new w6 _) (o5.alloc _) (by simp; omega) ?_); intro gg cap3 w7 hown hgrow hat hl)
            have s7 := s6.app (World.grownBy_alloc w6 _ none) hown hgrow hat hl
            clear hown hgrow hat hl s6 o5
            go_wp2_with fail
            go_roundw
            case rel => exact ⟨j + 1, zs ++ [y], hlt2, by go_num, by simp; omega, by rw [← Nat.add_assoc]; simpa using s7⟩
            case measure => simp [intOf]; omega
          · have hq' : (q == 0) = false := by simpa using hq
            clear hq
            go_wp2_with fail
            go_roundw
            case rel => exact ⟨j + 1, zs, hlt2, by go_num, by omega, s6⟩
            case measure => simp [intOf]; omega
        · have s6 := s5.at2.rdMono (show 20 + j ≤ 28 by omega)
          clear s5
          by_cases h0 : 0 < n
          · go_wp2_with fail
            refine (pick_st b 28 30 s6 (by omega) (by omega)).mono ?_
            rintro e w7 ⟨q, rfl, q0, q1, s7⟩
            clear s6 q1
            by_cases hq : q = 0
            · subst hq
              obtain ⟨gx, c', e, _, _⟩ := s7.at3.own.form (by rw [HXK.out]; exact h0)
              cases e
              have s8 := s7.alloc (.cells #[.int .i64 0, .int .i64 100] 3)
              have i1 : (0 : Int) < (xs.length : Int) := by rw [HXK.out]; omega
              go_wp2_with fail
              refine (pick_st b 29 2 s8.at1 (by omega) (by omega)).mono ?_
              rintro e w9 ⟨t, rfl, t0, t1, s9⟩
              have t2 := t1 (by omega)
              clear s7 s8 t1
              obtain ⟨d9, _⟩ := s9.at1.cells
              have k0 := d9 0
              have k1 := d9 1
              simp at k0 k1
              have f9 := s9.at4.own.frozenAt 0
              obtain ⟨u9, hu9⟩ : ∃ u, w9.cell? ⟨gx, 0, none⟩ = some u := ⟨_, (s9.at4.own.cellAt 0 (by simp; omega)).trans (List.getElem?_eq_getElem (by simp; omega))⟩
              have SET := Lib.hid (fun x : Int => by
                have q := s9.at4.rowSet 0 (.int .i64 x)
                rw [← List.map_set] at q
                exact (q.at2.drop))
              clear d9 s9
              rcases (show t = 0 ∨ t = 1 by omega) with rfl | rfl
              · have sx := (SET.out 0).at1
                go_wp2_with fail
                refine (pick_st b 30 3 sx (by omega) (by omega)).mono ?_
                rintro e wz ⟨qz, rfl, qz0, qz1, sz⟩
                have qz2 := qz1 (by omega)
                have FIN := Lib.hid ((sz.rdMono (show 30 + 1 ≤ 100 by omega)).at1.fin4)
                clear sz
                go_wp2_with fail
                exact bodyPost_ret (v := .tuple #[.slice (some ⟨gx, 0, none⟩) xs.length vc, .slice ua ys.length uc, .slice za zs.length zc, .int .i64 (1 + qz)]) (by simp [results, Try.results11, go_sem]) rfl ⟨_, _, _, xs.set 0 0, ys, zs, _, rfl, by simp; omega, hy8, hz8, by omega, by omega, by simpa using FIN.out⟩
              · have sx := (SET.out 100).at1
                go_wp2_with fail
                refine (pick_st b 30 3 sx (by omega) (by omega)).mono ?_
                rintro e wz ⟨qz, rfl, qz0, qz1, sz⟩
                have qz2 := qz1 (by omega)
                have FIN := Lib.hid ((sz.rdMono (show 30 + 1 ≤ 100 by omega)).at1.fin4)
                clear sz
                go_wp2_with fail
                exact bodyPost_ret (v := .tuple #[.slice (some ⟨gx, 0, none⟩) xs.length vc, .slice ua ys.length uc, .slice za zs.length zc, .int .i64 (1 + qz)]) (by simp [results, Try.results11, go_sem]) rfl ⟨_, _, _, xs.set 0 100, ys, zs, _, rfl, by simp; omega, hy8, hz8, by omega, by omega, by simpa using FIN.out⟩
            · have hq' : (q == 0) = false := by simpa using hq
              clear hq
              go_wp2_with fail
              refine (pick_st b 29 3 s7 (by omega) (by omega)).mono ?_
              rintro e wz ⟨qz, rfl, qz0, qz1, sz⟩
              have qz2 := qz1 (by omega)
              have FIN := Lib.hid ((sz.rdMono (show 29 + 1 ≤ 100 by omega)).at3.fin4)
              clear sz
              go_wp2_with fail
              exact bodyPost_ret (v := .tuple #[.slice va xs.length vc, .slice ua ys.length uc, .slice za zs.length zc, .int .i64 (1 + qz)]) (by simp [results, Try.results11, go_sem]) rfl ⟨_, _, _, xs, ys, zs, _, rfl, hx6, hy8, hz8, by omega, by omega, by simpa using FIN.out⟩
          · have hn0 : ¬ (0 : Int) < (n : Int) := by omega
            go_wp2_with fail
            refine (pick_st b 28 3 s6 (by omega) (by omega)).mono ?_
            rintro e wz ⟨qz, rfl, qz0, qz1, sz⟩
            have qz2 := qz1 (by omega)
            have FIN := Lib.hid ((sz.rdMono (show 28 + 1 ≤ 100 by omega)).at3.fin4)
            clear sz
            go_wp2_with fail
            exact bodyPost_ret (v := .tuple #[.slice va xs.length vc, .slice ua ys.length uc, .slice za zs.length zc, .int .i64 (1 + qz)]) (by simp [results, Try.results11, go_sem]) rfl ⟨_, _, _, xs, ys, zs, _, rfl, hx6, hy8, hz8, by omega, by omega, by simpa using FIN.out⟩

/-- What the draws of plans hand back. -/
def DrawnPlan (w : World) (e : Ending) (w' : World) : Prop :=
  ∃ (a1 a2 a3 : Option Addr) (c1 c2 c3 : Nat) (xs ys zs : List Int) (q : Int), e = .returned (.tuple #[.slice a1 xs.length c1, .slice a2 ys.length c2, .slice a3 zs.length c3, .int .i64 q]) ∧ xs.length ≤ 6 ∧ ys.length ≤ 8 ∧ zs.length ≤ 8 ∧ 1 ≤ q ∧ q ≤ 3 ∧
    St w w' [row (.slice a1 xs.length c1) 3 1 xs.length (xs.map (Value.int .i64)), row (.slice a2 ys.length c2) 3 1 ys.length (ys.map (Value.int .i64)), row (.slice a3 zs.length c3) 3 1 zs.length (zs.map (Value.int .i64))]
theorem St.three {w0 w : World} {rs : List Res} {x y z : Res} (h : St w0 w (x :: y :: z :: rs)) : St w0 w [x, y, z] :=
  h.under (fun h => h.under (fun h => h.only) (by simp)) (by simp)
set_option maxHeartbeats 1000000 in
theorem drawPlanOf_calls (a : Option Addr) (n cap : Nat) (w : World) (hc : n ≤ cap) (hm : cap ≤ maxLen) (hb : BytesAt w a n) :
    Calls Try.prog 4 #[.slice a n cap] w (DrawnPlan w) := by
  go_enter Try.func4, Try.ntmps4
  go_wp2_with fail
  refine (l6Open_st a n cap (St.start w) hc hm hb).mono ?_
  rintro e w1 ⟨b, rfl, s1⟩
  go_wp2_with fail
  refine (plan_st b s1).mono ?_
  rintro e w2 ⟨v1, v2, v3, xs, ys, zs, q, rfl, h1, h2, h3, q1, q2, s2⟩
  obtain ⟨a1, c1, rfl, _⟩ := s2.ints
  obtain ⟨a2, c2, rfl, _⟩ := s2.drop.ints
  obtain ⟨a3, c3, rfl, _⟩ := s2.drop.drop.ints
  have FIN : Hid (DrawnPlan w (.returned (.tuple #[.slice a1 xs.length c1, .slice a2 ys.length c2, .slice a3 zs.length c3, .int .i64 q])) w2) := Lib.hid ⟨a1, a2, a3, c1, c2, c3, xs, ys, zs, q, rfl, h1, h2, h3, q1, q2, s2.three⟩
  clear s1 s2
  go_wp2_with fail
  exact bodyPost_ret (v := .tuple #[.slice a1 xs.length c1, .slice a2 ys.length c2, .slice a3 zs.length c3, .int .i64 q]) (by simp [results, Try.results4, go_sem]) rfl FIN.out
end Go.Proofs.Ytebklbncfcdkmaa
