
/-
  The walks of the moves of a piece and of the reference's PlanOf. No statement is proved here.
-/
import Derived.Test.YtebklbncfcdkmaaX17
import Derived.Test.YtebklbncfcdkmaaAp
namespace Go.Proofs.Ytebklbncfcdkmaa
open Go.RowKit

/-- Moves are made and handed back. -/
def MadeMoves (w : World) (ys : List Mv) (e : Ending) (w' : World) : Prop :=
  ∃ (a : Option Addr) (cap : Nat), e = .returned (.slice a ys.length cap) ∧ w'.ownsRow w.heap.size 35 3 (.slice a ys.length cap) ys.length (mcells ys) ∧ Below w.heap.size w w'
theorem madeMoves {w w' : World} {rs : List Res} {v : Value} {ys zs : List Mv} (h : St w w' (row v 35 3 ys.length (mcells ys) :: rs)) (he : zs = ys) : MadeMoves w zs (.returned v) w' := by
  subst he
  obtain ⟨a, cap, rfl, _⟩ := own_cells h.own
  exact ⟨a, cap, rfl, h.own, h.below⟩

set_option maxRecDepth 100000 in
set_option maxHeartbeats 4000000 in
theorem piece_calls (p : Int) (b : Option Addr) (cb : Nat) (ss : List Int) (c : Option Addr) (cc : Nat) (ds : List Int) (m : Int) (w : World) (h2 : ss.length ≤ 8) (h3 : ds.length ≤ 8) (hs : IntsAt w b ss) (hd : IntsAt w c ds) :
    Calls Try.prog 17 #[.int .i64 p, .slice b ss.length cb, .slice c ds.length cc, .int .i64 m] w (MadeMoves w (moveP ss ds m p)) := by
  have s1 := ((St.start w).alloc (.cells #[] 35)).madeRow 3 0 rfl (by simp [maxLen]) 0 (Nat.le_refl _)
  simp only [List.take_nil] at s1
  have hal8 : (goneP ss ds).length ≤ 8 := Nat.le_trans (goneP_len _ _) h2
  have hO := placeR_len p ss m
  have hF := placeR_len p (goneP ss ds) m
  have MV : Hid (moveP ss ds m p = match goneP (placeR p ss m) ds with | [] => [] | f :: _ => (goneP (placeR p (goneP ss ds) m) (placeR p ss m)).map fun t => (p, f, t)) := Lib.hid rfl
  go_enter Try.func17, Try.ntmps17
  go_wp2_with fail
  with_reducible refine (specPlaceOf_calls p b cb ss m _ (by omega) (hs.below s1.below)).mono ?_
  rintro e w2 ⟨oa, oc, rfl, o2, hb2⟩
  have s2 := s1.fresh hb2 o2 (Nat.le_refl _)
  clear s1 o2 hb2
  generalize w.heap.size = B at s2 ⊢
  go_wp2_with fail
  with_reducible refine (l31Alive_calls b cb ss c cc ds w2 (by omega) (by omega) (hs.below s2.below) (hd.below s2.below)).mono ?_
  rintro e w3 ⟨ga, gc, rfl, o3, hb3⟩
  have s3 := s2.fresh hb3 o3 (Nat.le_refl _)
  clear s2 o3 hb3
  go_wp2_with fail
  with_reducible refine (specPlaceOf_calls p ga gc (goneP ss ds) m w3 (by omega) (own_intsR s3.own)).mono ?_
  rintro e w4 ⟨fa, fc, rfl, o4, hb4⟩
  have s4 := (s3.fresh hb4 o4 (Nat.le_refl _)).at1.drop
  clear s3 o4 hb4
  generalize placeR p ss m = old at *
  generalize placeR p (goneP ss ds) m = fresh at *
  go_wp2_with fail
  with_reducible refine (l31Alive_calls oa oc old c cc ds w4 (by omega) (by omega) (own_intsR s4.at1.own) (hd.below s4.below)).mono ?_
  rintro e w5 ⟨la, lc, rfl, o5, hb5⟩
  have s5 := (s4.fresh hb5 o5 (Nat.le_refl _)).at3
  clear s4 o5 hb5
  have hL := goneP_len old ds
  generalize goneP old ds = left at *
  cases left with
  | nil =>
    have FIN := Lib.hid (madeMoves (ys := []) s5 (show moveP ss ds m p = [] from MV.out))
    clear s5
    simp only [List.length_nil]
    go_wp2_with fail
    go_loop [9, 15] (fun v i => i = .int .i64 0 ∧ v = .slice (some ⟨B, 0, none⟩) 0 0) (fun _ _ => 0)
    case atStart => exact ⟨rfl, rfl⟩
    case round =>
      obtain ⟨rfl, rfl⟩ := hrel
      go_wp2_with fail
      all_goals exact bodyPost_ret (v := .slice (some ⟨B, 0, none⟩) 0 0) (by simp [results, Try.results17, go_sem]) rfl FIN.out
  | cons f left =>
    have MV2 := Lib.hid (show moveP ss ds m p = (goneP fresh old).map fun t => (p, f, t) from MV.out)
    have hL1 : left.length ≤ 8 := by simp at hL; omega
    simp only [List.length_cons] at s5 hL ⊢
    obtain ⟨lg, c', e, _, _⟩ := s5.at1.own.form (by omega)
    cases e
    go_wp2_with fail
    go_loopw [9, 15] (fun v i wr => ∃ (k : Nat), k ≤ fresh.length ∧ i = .int .i64 k ∧ St w wr [row v 35 3 ((goneP (fresh.take k) old).map fun t => (p, f, t)).length (mcells ((goneP (fresh.take k) old).map fun t => (p, f, t))), row (.slice (some ⟨lg, 0, none⟩) (left.length + 1) lc) 3 1 (left.length + 1) ((f :: left).map (Value.int .i64)), row (.slice fa fresh.length fc) 3 1 fresh.length (fresh.map (Value.int .i64)), row (.slice oa old.length oc) 3 1 old.length (old.map (Value.int .i64))]) (fun _ i _ => fresh.length - (intOf i).toNat)
    case atStart => exact ⟨0, Nat.zero_le _, rfl, s5⟩
    case round =>
      clear s5
      obtain ⟨k, hk, rfl, s6⟩ := hrel
      by_cases hlt : k < fresh.length
      · obtain ⟨fg, c', e, _, _⟩ := s6.at2.own.form (by omega)
        cases e
        have cn := s6.at2.own.cellAt k (by simp; omega)
        simp only [List.getElem?_map, List.getElem?_eq_getElem hlt, Option.map_some] at cn
        have i1 : (0 : Int) ≤ (k : Int) := by omega
        have i2 : (k : Int) < (fresh.length : Int) := by omega
        have TS := Lib.hid (take_snocI hlt)
        have GX := Lib.hid (List.getElem?_eq_getElem hlt)
        have PL1 := l13Place_calls oa oc old fresh[k] wr (by omega) (own_intsR s6.at3.own)
        have hgl : ((goneP (fresh.take k) old).map fun t => (p, f, t)).length ≤ 100 := by
          have := goneP_len (fresh.take k) old
          simp at this ⊢; omega
        generalize fresh[k] = y at *
        by_cases hin : y ∈ old
        · obtain ⟨j, hj⟩ := place_in hin
          rw [hj] at PL1
          have PL2 := Lib.hid PL1
          have GO := Lib.hid (show goneP (fresh.take (k + 1)) old = goneP (fresh.take k) old by rw [TS.out, goneP_snoc_in hin])
          clear hin PL1 hj
          go_wp2_with fail
          with_reducible refine PL2.out.mono ?_
          rintro e w' ⟨rfl, rfl⟩
          go_wp2_with fail
          go_roundw
          case rel => exact ⟨k + 1, hlt, by go_num, by rw [GO.out]; exact s6⟩
          case measure => simp [intOf]; omega
        · rw [place_out hin] at PL1
          have PL2 := Lib.hid PL1
          have GO := Lib.hid (show ((goneP (fresh.take (k + 1)) old).map fun t => (p, f, t)) = ((goneP (fresh.take k) old).map fun t => (p, f, t)) ++ [(p, f, y)] by rw [TS.out, goneP_snoc_out hin, List.map_append]; rfl)
          clear hin PL1
          generalize ((goneP (fresh.take k) old).map fun t => (p, f, t)) = M at *
          go_wp2_with fail
          with_reducible refine PL2.out.mono ?_
          rintro e w' ⟨rfl, rfl⟩
          obtain ⟨S, hS⟩ := Mix.named (fun w' => w'.cell? ⟨lg, 0, none⟩ = some (.int .i64 f) ∧ w'.cell? ⟨fg, k, none⟩ = some (.int .i64 y))
          have HS := Lib.hid hS
          have e0 := Mix.held_cell (fun w h => ((hS w).1 h).1)
          have e1 := Mix.held_cell (fun w h => ((hS w).1 h).2)
          clear hS
          have SO := Lib.hid (fun W (s1 : St w W [row (.slice (some ⟨lg, 0, none⟩) (left.length + 1) lc) 3 1 (left.length + 1) ((f :: left).map (Value.int .i64))]) (s2 : St w W [row (.slice (some ⟨fg, 0, none⟩) fresh.length fc) 3 1 fresh.length (fresh.map (Value.int .i64))]) => by
            have b1 := s1.own.cellAt 0 (by simp)
            have b2 := s2.own.cellAt k (by simp; omega)
            rw [List.map_cons, List.getElem?_cons_zero] at b1
            rw [List.getElem?_map, GX.out] at b2
            exact (HS.out W).2 ⟨b1, b2⟩)
          have s7 := s6.drew
          clear s6 cn PL2
          go_wp2_with fail
          obtain ⟨va, vc, rfl, _⟩ := own_cells s7.own
          refine Mix.start S 12 (by kernel_rfl) ?_
          refine Mix.take [0, 1, 2, 3, 4, 5, 6, 7, 8] 4 (by kernel_rfl) (by kernel_rfl) (by kernel_rfl) (by intro c a a' w e h; exact ⟨e.symm.trans h.1, h.2⟩) (SO.out _ (s7.pull (by simp)) (s7.pull (by simp))) ?_
          intro hne
          simp only [Mix.pickOps, List.filterMap_cons, List.filterMap_nil, List.getElem?_toArray, List.getElem?_cons_zero, List.getElem?_cons_succ]
          repeat (refine Mix.cons_form ?_; go_big_quiet_step (fail))
          refine wpQuiet_nil ?_
          clear hne
          refine Mix.step (i := 9) (by kernel_rfl) rfl rfl ?_
          go_simp
          refine And.intro (SO.out _ (s7.pull (by simp)) (s7.pull (by simp))) ?_
          refine Mix.step (i := 10) (by kernel_rfl) rfl rfl ?_
          have s8 := s7.alloc (.cells #[.int .i64 p, .int .i64 f, .int .i64 y] 35)
          go_simp
          refine And.intro (SO.out _ (s8.pull (by simp)) (s8.pull (by simp))) ?_
          refine Mix.step (i := 11) (by kernel_rfl) rfl rfl ?_
          have o8 := s8.at1.own
          have lR := s8.size
          refine wp_app elem_move _ _ (by rfl) w.heap.size (.slice va M.length vc) M.length (mcells M) (by rfl) wr.heap.size 1 1 (by rfl) #[.int .i64 p, .int .i64 f, .int .i64 y] 35 (0, 0) (by rfl) (by simp [Value.oneCell']) (by omega) (by omega) (by omega) (heap_alloc_new wr.drew _) o8 (by simp at lR ⊢; omega) ?_
          intro gg cap3 w9 hown hgrow hat hl
          have s9 := (s8.at1.app (grown_refl _ _) hown hgrow hat hl).at1.drop
          refine And.intro (.inr (SO.out _ (s9.pull (by simp)) (s9.pull (by simp)))) ?_
          have E8 : mcells M ++ (#[Value.int .i64 p, .int .i64 f, .int .i64 y] : Array Value).toList = mcells (M ++ [(p, f, y)]) := by rw [mcells_append]; rfl
          rw [E8] at s9
          clear hown hgrow hat hl o8 s8 s7
          go_simp
          refine Mix.step (i := 12) (by kernel_rfl) rfl rfl ?_
          go_simp
          refine Mix.done (by kernel_rfl) ?_
          go_wp2_with fail
          go_roundw
          case rel => exact ⟨k + 1, hlt, by go_num, by rw [GO.out]; simpa using s9⟩
          case measure => simp [intOf]; omega
      · rw [List.take_of_length_le (by omega)] at s6
        have FIN := Lib.hid (madeMoves s6 MV2.out)
        clear s6
        go_wp2_with fail
        go_ret
        exact FIN.out

set_option maxHeartbeats 4000000 in
theorem specPlanOf_calls (a : Option Addr) (ca : Nat) (ps : List Int) (b : Option Addr) (cb : Nat) (ss : List Int) (c : Option Addr) (cc : Nat) (ds : List Int) (m : Int) (w : World)
    (h1 : ps.length ≤ 1099511627776) (h2 : ss.length ≤ 1099511627776) (h3 : ds.length ≤ 1099511627776) (hp : IntsAt w a ps) (hs : IntsAt w b ss) (hd : IntsAt w c ds) :
    Calls Try.prog 6 #[.slice a ps.length ca, .slice b ss.length cb, .slice c ds.length cc, .int .i64 m] w (GaveMoves w (planR ps ss ds m) (planOk ps ss ds m)) := by
  have PA := Lib.hid (fun (w' : World) (hb : Below w.heap.size w w') => l31Ok_calls a ca ps b cb ss c cc ds m w' h1 h2 h3 (hp.below hb) (hs.below hb) (hd.below hb))
  have s1 := ((St.start w).alloc (.cells #[] 35)).madeRow 3 0 rfl (by simp [maxLen]) 0 (Nat.le_refl _)
  simp only [List.take_nil] at s1
  cases hok : planOk ps ss ds m with
  | false =>
    have LR : Hid (planR ps ss ds m = []) := Lib.hid (by rw [planR, hok]; rfl)
    rw [hok] at PA
    go_enter Try.func6, Try.ntmps6
    go_wp2_with fail
    with_reducible refine (PA.out _ s1.below).mono ?_
    rintro e w1 ⟨rfl, hb1⟩
    have FIN := Lib.hid (gaveMoves (ys := []) (s1.call hb1) LR.out (rfl : false = false))
    clear s1
    go_wp2_with fail
    exact bodyPost_ret (v := .tuple #[.slice (some ⟨w.heap.size, 0, none⟩) 0 0, .bool false]) (by simp [results, Try.results6, go_sem]) rfl FIN.out
  | true =>
    have LR : Hid (planR ps ss ds m = planL ps ss ds m) := Lib.hid (by rw [planR, hok]; rfl)
    obtain ⟨⟨hp12, _⟩, ⟨hs8, _⟩, ⟨hd8, _⟩, _⟩ := planOk_iff.1 hok
    rw [hok] at PA
    go_enter Try.func6, Try.ntmps6
    go_wp2_with fail
    with_reducible refine (PA.out _ s1.below).mono ?_
    rintro e w1 ⟨rfl, hb1⟩
    have s2 := s1.call hb1
    clear hb1 s1
    generalize w.heap.size = B at s2
    go_wp2_with fail
    go_loopw [10, 11] (fun v i wr => ∃ (k : Nat), k ≤ ps.length ∧ i = .int .i64 k ∧ St w wr [row v 35 3 (planL (ps.take k) ss ds m).length (mcells (planL (ps.take k) ss ds m))]) (fun _ i _ => ps.length - (intOf i).toNat)
    case atStart => exact ⟨0, Nat.zero_le _, rfl, s2⟩
    case round =>
      clear s2
      obtain ⟨k, hk, rfl, s2⟩ := hrel
      by_cases hlt : k < ps.length
      · rcases hp.below s2.below with rfl | ⟨bk, off, rfl, hc⟩
        · simp at hlt
        have hcell : wr.cell? ⟨bk, off + k, none⟩ = some (.int .i64 ps[k]) := by
          have := hc k hlt
          simpa [hlt] using this
        have i1 : (0 : Int) ≤ (k : Int) := by omega
        have i2 : (k : Int) < (ps.length : Int) := by omega
        have SN := Lib.hid (show planL (ps.take (k + 1)) ss ds m = planL (ps.take k) ss ds m ++ moveP ss ds m ps[k] by rw [take_snocI hlt, planL_snoc])
        have hpl : (planL (ps.take k) ss ds m).length ≤ 96 := by
          have := planL_len ss ds m (ps.take k)
          simp at this; omega
        have hml := moveP_len ss ds m ps[k]
        have PC := Lib.hid (piece_calls ps[k] b cb ss c cc ds m wr hs8 hd8 (hs.below s2.below) (hd.below s2.below))
        clear hc
        generalize ps[k] = x at *
        generalize planL (ps.take k) ss ds m = M at *
        generalize moveP ss ds m x = Q at *
        go_wp2_with fail
        with_reducible refine PC.out.mono ?_
        rintro e w3 ⟨qa, qc, rfl, o3, hb3⟩
        have s3 := s2.call hb3
        have c3 := own_cellsR o3
        have o4 := s3.own
        have lR := s3.size
        clear s2 hb3 o3
        go_wp2_with ((at_builtin; refine list_appV elem_move (by rfl) _ _ (by rfl) w.heap.size u10 M.length (mcells M) (by rfl) qa Q.length qc (by rfl) (mcells Q) (mcells_len Q) (mcells_one Q) (by omega) (by omega) c3 o4 lR ?_); intro v' w7 hown hgrow hat hl)
        have s7 := s3.appV (grown_refl _ _) hown hgrow hat hl
        rw [← mcells_append, ← List.length_append] at s7
        clear hown hgrow hat hl s3 o4 c3
        go_wp2_with fail
        go_roundw
        case rel => exact ⟨k + 1, hlt, by go_num, by rw [SN.out]; exact s7⟩
        case measure => simp [intOf]; omega
      · have e : ps.take k = ps := List.take_of_length_le (by omega)
        rw [e] at s2
        have FIN := Lib.hid (gaveMoves s2 LR.out (rfl : true = true))
        clear s2
        go_wp2_with fail
        go_ret2
        exact FIN.out

end Go.Proofs.Ytebklbncfcdkmaa
