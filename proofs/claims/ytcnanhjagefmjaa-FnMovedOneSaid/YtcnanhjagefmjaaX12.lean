
/-
  The walk of the draw of places. No statement is proved here.
-/
import Derived.Test.YtcnanhjagefmjaaX11
import Derived.Test.YtcnanhjagefmjaaSl
namespace Go.Proofs.Ytcnanhjagefmjaa
open Go.RowKit

theorem info_int1 : (Try.prog.info? 3).map (·.size) = some 1 := by kernel_rfl
theorem oneCells (xs : List Int) : ∀ u ∈ xs.map (Value.int .i64), u.oneCell' = true := by simp [Value.oneCell']

set_option maxRecDepth 100000 in
set_option maxHeartbeats 4000000 in
theorem drawPlaceMoved_calls (a : Option Addr) (n cap : Nat) (w : World) (hc : n ≤ cap) (hm : cap ≤ maxLen) (hb : BytesAt w a n) :
    Calls Try.prog 19 #[.slice a n cap] w fun e w' => ∃ (p : Int) (a1 a2 : Option Addr) (c1 c2 : Nat) (xs ys : List Int) (q : Int), e = .returned (.tuple #[.int .i64 p, .slice a1 xs.length c1, .slice a2 ys.length c2, .int .i64 q]) ∧ xs.length ≤ 8 ∧ ys.length ≤ 8 ∧
      St w w' [row (.slice a1 xs.length c1) 3 1 xs.length (xs.map (Value.int .i64)), row (.slice a2 ys.length c2) 3 1 ys.length (ys.map (Value.int .i64))] := by
  go_enter Try.func19, Try.ntmps19
  go_wp2_with fail
  refine (l6Open_st a n cap (St.start w) hc hm hb).mono ?_
  rintro e w1 ⟨b, rfl, s1⟩
  go_wp2_with fail
  refine (pick_st b 0 40 s1 (by omega) (by omega)).mono ?_
  rintro e w2 ⟨p, rfl, p0, p1, s2⟩
  have p2 := p1 (by omega)
  clear s1 p1
  go_wp2_with fail
  refine (servers_st b 1 s2 (by omega)).mono ?_
  rintro e w3 ⟨v1, xs, rfl, hx8, s3⟩
  obtain ⟨va, vc, rfl, ix⟩ := s3.ints
  have s4 := (s3.alloc (.cells #[] 3)).madeRow 1 0 rfl (by simp [maxLen]) 0 (Nat.le_refl _)
  simp only [List.take_nil] at s4
  have cx := own_cellsR s4.at1.own
  clear s2 s3 ix
  have o4 := s4.own
  have lR := s4.size
  have hone := oneCells xs
  go_wp2_with ((at_builtin; refine list_appV elem_int (by rfl) _ _ (by rfl) w.heap.size (.slice (some ⟨w3.heap.size, 0, none⟩) 0 0) 0 [] (by rfl) va xs.length vc (by rfl) (xs.map (Value.int .i64)) (by simp) hone (by omega) (by omega) cx o4 lR ?_); intro v' w7 hown hgrow hat hl; have s7 := s4.appV (grown_refl _ _) hown hgrow hat hl; simp only [Nat.zero_add, List.nil_append] at s7; obtain ⟨ua, uc, rfl, _⟩ := s7.ints)
  · have h1 : 1 < xs.length := by omega
    clear hown hgrow hat hl s4 o4 lR hone cx
    refine (pick_st b 15 xs.length s7.at2 (by omega) (by omega)).mono ?_
    rintro e w8 ⟨q, rfl, q0, q1, s8⟩
    have q2 := q1 (by omega)
    obtain ⟨k, rfl⟩ := Int.eq_ofNat_of_zero_le q0
    have s8 := s8.to2
    clear s7 q1
    obtain ⟨g, c', e, _, _⟩ := s8.own.form (by omega)
    cases e
    have hcap := own_cap s8.own
    have hk : k + 1 ≤ xs.length := by omega
    have hsl : ∀ w, (Instr.slice 22 (.slice (some ⟨g, 0, none⟩) xs.length uc) (some (.int .i64 ((k : Int) + 1))) none none).run Try.prog w = .ok (.slice (cutAt (some ⟨g, 0, none⟩) uc (k + 1) 1) (xs.length - (k + 1)) (uc - (k + 1))) w := by
      have := run_from (P := Try.prog) 22 3 1 (some ⟨g, 0, none⟩) xs.length uc (k + 1) Try.underlying22 info_int1 hk
      simpa using this
    have CC := Lib.hid (fun W R (s : St w W (row (.slice (some ⟨g, 0, none⟩) xs.length uc) 3 1 xs.length (xs.map (Value.int .i64)) :: R)) => by
      have := cells_from (own_cellsR s.own) uc (k + 1) 1 (by simp; omega)
      rw [Nat.mul_one, ← List.map_drop] at this
      exact this)
    have i1 : (0 : Int) ≤ (k : Int) := by omega
    have i2 : (k : Int) ≤ (xs.length : Int) := by omega
    have i3 : (k : Int) ≤ (uc : Int) := by omega
    obtain ⟨S, hS⟩ := Mix.named (fun _ => True)
    have SO := Lib.hid (fun W => (hS W).2 trivial)
    clear hS
    generalize hys : xs.take k ++ xs.drop (k + 1) = ys
    have hy8 : ys.length ≤ 8 := by rw [← hys]; simp; omega
    go_wp2_with fail
    have s9 := (s8.drew).rowTake k (by omega)
    rw [Nat.mul_one, ← List.map_take] at s9
    have c9 := CC.out _ _ s8.drew
    have o9 := s9.own
    have l9 := s9.size
    refine Mix.start S 8 (by kernel_rfl) ?_
    refine Mix.take [0, 1, 2, 3, 4, 5, 6] 2 (by kernel_rfl) (by kernel_rfl) (by kernel_rfl) (by intro c a a' w e h; exact ⟨e.symm.trans h.1, h.2⟩) (SO.out _) ?_
    intro hne
    simp only [Mix.pickOps, List.filterMap_cons, List.filterMap_nil, List.getElem?_toArray, List.getElem?_cons_zero, List.getElem?_cons_succ]
    repeat (refine Mix.cons_form ?_; go_big_quiet_step (fail))
    refine wpQuiet_nil ?_
    clear hne
    refine Mix.step (i := 7) (by kernel_rfl) rfl rfl ?_
    refine wp_appV elem_int _ _ (by rfl) w.heap.size _ k ((xs.take k).map (Value.int .i64)) (by rfl) _ (xs.length - (k + 1)) (uc - (k + 1)) (by rfl) ((xs.drop (k + 1)).map (Value.int .i64)) (by simp) (oneCells _) (by omega) (by omega) c9 o9 l9 ?_
    intro v9 w9 hown hgrow hat hl
    have sA := s9.appV (grown_refl _ _) hown hgrow hat hl
    refine And.intro (.inr (SO.out _)) ?_
    simp only [List.nil_append, ← List.map_append, hys] at sA
    rw [show k + (xs.length - (k + 1)) = ys.length by rw [← hys]; simp; omega] at sA
    clear hown hgrow hat hl s9 o9 l9 c9 s8 hsl
    obtain ⟨yya, yyc, rfl, _⟩ := sA.ints
    go_simp
    refine Mix.step (i := 8) (by kernel_rfl) rfl rfl ?_
    go_simp
    refine Mix.done (by kernel_rfl) ?_
    clear CC hys
    have sB := sA
    clear sA
    go_wp2_with fail
    refine (pick_st b 16 4 (sB).at2 (by omega) (by omega)).mono ?_
    rintro e w8 ⟨r, rfl, r0, r1, s8⟩
    have s8 := s8.to2
    clear r1
    by_cases hr : r = 0
    · subst hr
      go_wp2_with fail
      refine (servers_st b (16 + 1) (s8.at2) (by omega)).mono ?_
      rintro e w9 ⟨v9, zs, rfl, hz8, s9⟩
      obtain ⟨za, zc, rfl, _⟩ := s9.ints
      clear s8
      go_wp2_with fail
      refine (pick_st b (16 + 1 + 14) 3 s9.at1 (by omega) (by omega)).mono ?_
      rintro e wa ⟨t, rfl, t0, t1, sa⟩
      have t2 := t1 (by omega)
      have FIN : Hid (St w wa [row (.slice va xs.length vc) 3 1 xs.length (xs.map (Value.int .i64)), row (.slice za zs.length zc) 3 1 zs.length (zs.map (Value.int .i64))]) := Lib.hid (sa.drop.at2.under (fun h => h.only) (by simp))
      clear sa s9 t1
      go_wp2_with fail
      exact bodyPost_ret (v := .tuple #[.int .i64 (1 + p), .slice va xs.length vc, .slice za zs.length zc, .int .i64 (1 + t)]) (by simp [results, Try.results19, go_sem]) rfl ⟨_, va, za, vc, zc, xs, zs, _, rfl, hx8, hz8, FIN.out⟩
    · have hr' : (r == 0) = false := by simpa using hr
      clear hr
      go_wp2_with fail
      refine (pick_st b (16 + 1) 3 s8.at2 (by omega) (by omega)).mono ?_
      rintro e wa ⟨t, rfl, t0, t1, sa⟩
      have t2 := t1 (by omega)
      have FIN : Hid (St w wa [row (.slice va xs.length vc) 3 1 xs.length (xs.map (Value.int .i64)), row (.slice yya (ys).length yyc) 3 1 (ys).length ((ys).map (Value.int .i64))]) := Lib.hid (sa.drop.at1)
      clear sa s8 t1
      go_wp2_with fail
      exact bodyPost_ret (v := .tuple #[.int .i64 (1 + p), .slice va xs.length vc, .slice yya (ys).length yyc, .int .i64 (1 + t)]) (by simp [results, Try.results19, go_sem]) rfl ⟨_, va, yya, vc, yyc, xs, ys, _, rfl, hx8, hy8, FIN.out⟩
  · clear hown hgrow hat hl s4 o4 lR hone cx
    refine (pick_st b 15 4 (s7).at2 (by omega) (by omega)).mono ?_
    rintro e w8 ⟨r, rfl, r0, r1, s8⟩
    have s8 := s8.to2
    clear r1
    by_cases hr : r = 0
    · subst hr
      go_wp2_with fail
      refine (servers_st b (15 + 1) (s8.at2) (by omega)).mono ?_
      rintro e w9 ⟨v9, zs, rfl, hz8, s9⟩
      obtain ⟨za, zc, rfl, _⟩ := s9.ints
      clear s8
      go_wp2_with fail
      refine (pick_st b (15 + 1 + 14) 3 s9.at1 (by omega) (by omega)).mono ?_
      rintro e wa ⟨t, rfl, t0, t1, sa⟩
      have t2 := t1 (by omega)
      have FIN : Hid (St w wa [row (.slice va xs.length vc) 3 1 xs.length (xs.map (Value.int .i64)), row (.slice za zs.length zc) 3 1 zs.length (zs.map (Value.int .i64))]) := Lib.hid (sa.drop.at2.under (fun h => h.only) (by simp))
      clear sa s9 t1
      go_wp2_with fail
      exact bodyPost_ret (v := .tuple #[.int .i64 (1 + p), .slice va xs.length vc, .slice za zs.length zc, .int .i64 (1 + t)]) (by simp [results, Try.results19, go_sem]) rfl ⟨_, va, za, vc, zc, xs, zs, _, rfl, hx8, hz8, FIN.out⟩
    · have hr' : (r == 0) = false := by simpa using hr
      clear hr
      go_wp2_with fail
      refine (pick_st b (15 + 1) 3 s8.at2 (by omega) (by omega)).mono ?_
      rintro e wa ⟨t, rfl, t0, t1, sa⟩
      have t2 := t1 (by omega)
      have FIN : Hid (St w wa [row (.slice va xs.length vc) 3 1 xs.length (xs.map (Value.int .i64)), row (.slice ua (xs).length uc) 3 1 (xs).length ((xs).map (Value.int .i64))]) := Lib.hid (sa.drop.at1)
      clear sa s8 t1
      go_wp2_with fail
      exact bodyPost_ret (v := .tuple #[.int .i64 (1 + p), .slice va xs.length vc, .slice ua (xs).length uc, .int .i64 (1 + t)]) (by simp [results, Try.results19, go_sem]) rfl ⟨_, va, ua, vc, uc, xs, xs, _, rfl, hx8, hx8, FIN.out⟩

end Go.Proofs.Ytcnanhjagefmjaa
