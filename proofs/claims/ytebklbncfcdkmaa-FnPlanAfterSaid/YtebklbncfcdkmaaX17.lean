
/-
  The moves of plans, and the walk of the program's PlanOf. No statement is proved here.
-/
import Derived.Test.YtebklbncfcdkmaaX14
import Derived.Test.YtebklbncfcdkmaaMf
namespace Go.Proofs.Ytebklbncfcdkmaa
open Go.RowKit

abbrev Mv : Type := Int × Int × Int
def mcells : List Mv → List Value
  | [] => []
  | m :: l => .int .i64 m.1 :: .int .i64 m.2.1 :: .int .i64 m.2.2 :: mcells l
theorem mcells_len : ∀ l, (mcells l).length = l.length * 3
  | [] => rfl
  | _ :: l => by simp [mcells, mcells_len l]; omega
theorem mcells_append : ∀ l k, mcells (l ++ k) = mcells l ++ mcells k
  | [], _ => rfl
  | m :: l, k => by simp [mcells, mcells_append l k]
theorem mcells_one : ∀ l : List Mv, ∀ u ∈ mcells l, u.oneCell' = true
  | [], u, h => by cases h
  | m :: l, u, h => by
    simp only [mcells, List.mem_cons] at h
    rcases h with rfl | rfl | rfl | h
    · rfl
    · rfl
    · rfl
    · exact mcells_one l u h
theorem mcells_at : ∀ (l : List Mv) (i : Nat) (h : i < l.length), (mcells l)[i * 3]? = some (.int .i64 l[i].1) ∧ (mcells l)[i * 3 + 1]? = some (.int .i64 l[i].2.1) ∧ (mcells l)[i * 3 + 2]? = some (.int .i64 l[i].2.2)
  | [], i, h => absurd h (by simp)
  | m :: l, 0, h => by simp [mcells]
  | m :: l, i + 1, h => by
    have := mcells_at l i (by simpa using h)
    rw [show (i + 1) * 3 = i * 3 + 3 by omega]
    simpa [mcells] using this

/-- The moves of a piece. -/
def moveP (ss ds : List Int) (m p : Int) : List Mv :=
  match goneP (placeR p ss m) ds with
  | [] => []
  | f :: _ => (goneP (placeR p (goneP ss ds) m) (placeR p ss m)).map fun t => (p, f, t)
def planL (ps ss ds : List Int) (m : Int) : List Mv := ps.flatMap (moveP ss ds m)
def planR (ps ss ds : List Int) (m : Int) : List Mv := if planOk ps ss ds m then planL ps ss ds m else []
theorem planL_snoc (ps ss ds : List Int) (m p : Int) : planL (ps ++ [p]) ss ds m = planL ps ss ds m ++ moveP ss ds m p := by simp [planL]
theorem moveP_len (ss ds : List Int) (m p : Int) : (moveP ss ds m p).length ≤ 8 := by
  unfold moveP
  split
  · simp
  · rw [List.length_map]
    exact Nat.le_trans (goneP_len _ _) (placeR_len _ _ _)
theorem planL_len (ss ds : List Int) (m : Int) : ∀ ps : List Int, (planL ps ss ds m).length ≤ 8 * ps.length
  | [] => by simp [planL]
  | p :: ps => by
    have h1 := planL_len ss ds m ps
    have h2 := moveP_len ss ds m p
    simp only [planL, List.flatMap_cons, List.length_append, List.length_cons] at *
    omega

theorem elem_move : Elem Try.prog 26 35 3 24 := by
  obtain ⟨i, hi, h0, h1, h2⟩ := info_parts (show (Try.prog.info? 35).map (fun i => (i.zero, i.size, i.bytes)) = some (some (.agg #[.int .i64 0, .int .i64 0, .int .i64 0]), 3, 24) by kernel_rfl)
  exact ⟨Try.underlying26, i, _, hi, h0, h1, h2, rfl, by omega⟩

/-- Moves are made and handed back, and whether all was well. -/
def GaveMoves (w : World) (ys : List Mv) (ok : Bool) (e : Ending) (w' : World) : Prop :=
  ∃ (a : Option Addr) (cap : Nat), e = .returned (.tuple #[.slice a ys.length cap, .bool ok]) ∧ w'.ownsRow w.heap.size 35 3 (.slice a ys.length cap) ys.length (mcells ys) ∧ Below w.heap.size w w'
theorem gaveMoves {w w' : World} {rs : List Res} {v : Value} {ys zs : List Mv} {b c : Bool} (h : St w w' (row v 35 3 ys.length (mcells ys) :: rs)) (he : zs = ys) (hb : c = b) : GaveMoves w zs c (.returned (.tuple #[v, .bool b])) w' := by
  subst he; subst hb
  obtain ⟨a, cap, rfl, _⟩ := own_cells h.own
  exact ⟨a, cap, rfl, h.own, h.below⟩

set_option maxRecDepth 100000 in
set_option maxHeartbeats 2000000 in
theorem move_st {w0 w : World} {rs : List Res} (g : Nat) (v : Value) (ms : List Mv) (p f t : Int) (h : St w0 w (box g #[v] 26 :: row v 35 3 ms.length (mcells ms) :: rs)) (hm : ms.length ≤ 1000) :
    Calls Try.prog 14 #[.int .i64 p, .int .i64 f, .int .i64 t, .pointer (some ⟨g, 0, none⟩)] w fun e w' => ∃ v', e = .returned (.tuple #[]) ∧ St w0 w' (box g #[v'] 26 :: row v' 35 3 (ms ++ [(p, f, t)]).length (mcells (ms ++ [(p, f, t)])) :: rs) := by
  have E8 : mcells ms ++ (#[Value.int .i64 p, .int .i64 f, .int .i64 t] : Array Value).toList = mcells (ms ++ [(p, f, t)]) := by rw [mcells_append]; rfl
  obtain ⟨c1, f1⟩ := h.cells
  have s1 := h.at1
  have o1 := s1.own
  have lR := s1.size
  go_enter Try.func14, Try.ntmps14
  go_wp2_with ((at_builtin; refine list_app elem_move (by rfl) _ _ (by rfl) w0.heap.size v ms.length (mcells ms) (by rfl) w.heap.size 1 1 (by rfl) #[.int .i64 p, .int .i64 f, .int .i64 t] 35 (0, 0) (by rfl) (by simp [Value.oneCell']) (by omega) (by omega) (by omega) (heap_alloc_new w _) (o1.alloc _) (by simp; omega) ?_); intro gg cap3 w7 hown hgrow hat hl; have s7 := (s1.app (World.grownBy_alloc w _ none) hown hgrow hat hl).at1; obtain ⟨d7, f7⟩ := s7.cells)
  have s8 := s7.set 0 (.slice (some ⟨gg, 0, none⟩) (ms.length + 1) cap3)
  rw [E8] at s8
  have FIN := Lib.hid s8
  exact ⟨rfl, .tuple #[], by simp [results, Try.results14, go_sem], rfl, _, by simpa using FIN.out⟩

set_option maxHeartbeats 4000000 in
theorem planOf_calls (a : Option Addr) (ca : Nat) (ps : List Int) (b : Option Addr) (cb : Nat) (ss : List Int) (c : Option Addr) (cc : Nat) (ds : List Int) (m : Int) (w : World)
    (h1 : ps.length ≤ 1099511627776) (h2 : ss.length ≤ 1099511627776) (h3 : ds.length ≤ 1099511627776) (hp : IntsAt w a ps) (hs : IntsAt w b ss) (hd : IntsAt w c ds) :
    Calls Try.prog 5 #[.slice a ps.length ca, .slice b ss.length cb, .slice c ds.length cc, .int .i64 m] w (GaveMoves w (planR ps ss ds m) (planOk ps ss ds m)) := by
  have PA := Lib.hid (planAlive_calls a ca ps b cb ss c cc ds m w h1 h2 h3 hp hs hd)
  cases hok : planOk ps ss ds m with
  | false =>
    have LR : Hid (planR ps ss ds m = []) := Lib.hid (by rw [planR, hok]; rfl)
    rw [hok] at PA
    go_enter Try.func5, Try.ntmps5
    go_wp2_with fail
    with_reducible refine PA.out.mono ?_
    rintro e w1 ⟨va, vc, rfl, _, hb1⟩
    have s2 := (((St.start w).call hb1).alloc (.cells #[] 35)).madeRow 3 0 rfl (by simp [maxLen]) 0 (Nat.le_refl _)
    simp only [List.take_nil] at s2
    have FIN := Lib.hid (gaveMoves (ys := []) s2 LR.out (rfl : false = false))
    clear s2
    go_wp2_with fail
    exact bodyPost_ret (v := .tuple #[.slice (some ⟨w1.heap.size, 0, none⟩) 0 0, .bool false]) (by simp [results, Try.results5, go_sem]) rfl FIN.out
  | true =>
    have LR : Hid (planR ps ss ds m = planL ps ss ds m) := Lib.hid (by rw [planR, hok]; rfl)
    have AR : aliveR ps ss ds m = goneP ss ds := by rw [aliveR, hok]; rfl
    obtain ⟨⟨hp12, _⟩, ⟨hs8, _⟩, ⟨hd8, _⟩, _⟩ := planOk_iff.1 hok
    have hal8 : (goneP ss ds).length ≤ 8 := Nat.le_trans (goneP_len _ _) hs8
    rw [hok, AR] at PA
    clear AR
    go_enter Try.func5, Try.ntmps5
    go_wp2_with fail
    with_reducible refine PA.out.mono ?_
    rintro e w1 ⟨ga, gc, rfl, o1, hb1⟩
    have s2 := ((((St.start w).fresh hb1 o1 (Nat.le_refl _)).alloc (.cells #[] 35)).madeRow 3 0 rfl (by simp [maxLen]) 0 (Nat.le_refl _)).allocAt (.cells #[.slice (some ⟨w1.heap.size, 0, none⟩) 0 0] 26) (w1.heap.size + 1) (by simp)
    simp only [List.take_nil] at s2
    clear o1 hb1
    go_wp2_with fail
    generalize hw2 : (w1.alloc (.cells #[] 35 (0, 0))).alloc (.cells #[.slice (some ⟨w1.heap.size, 0, none⟩) 0 0] 26 (0, 0)) = w2 at *
    generalize w1.heap.size + 1 = G at *
    clear hw2
    go_loopw [38] (fun i wr => ∃ (k : Nat) (v : Value), k ≤ ps.length ∧ i = .int .i64 k ∧ St w wr [box G #[v] 26, row v 35 3 (planL (ps.take k) ss ds m).length (mcells (planL (ps.take k) ss ds m)), row (.slice ga (goneP ss ds).length gc) 3 1 (goneP ss ds).length ((goneP ss ds).map (Value.int .i64))]) (fun i _ => ps.length - (intOf i).toNat)
    case atStart => exact ⟨0, _, Nat.zero_le _, rfl, s2⟩
    case round =>
      clear s2
      obtain ⟨k, v, hk, rfl, s2⟩ := hrel
      by_cases hlt : k < ps.length
      · rcases hp.below s2.below with rfl | ⟨bk, off, rfl, hc⟩
        · simp at hlt
        have hcell : wr.cell? ⟨bk, off + k, none⟩ = some (.int .i64 ps[k]) := by
          have := hc k hlt
          simpa [hlt] using this
        have i1 : (0 : Int) ≤ (k : Int) := by omega
        have i2 : (k : Int) < (ps.length : Int) := by omega
        have SN := Lib.hid (show planL (ps.take (k + 1)) ss ds m = planL (ps.take k) ss ds m ++ moveP ss ds m ps[k] by rw [take_snocI hlt, planL_snoc])
        have hpl : (planL (ps.take k) ss ds m).length ≤ 96 := by
          have := planL_len ss ds m (ps.take k)
          simp at this; omega
        clear hc
        generalize ps[k] = x at *
        generalize planL (ps.take k) ss ds m = M at *
        go_wp2_with fail
        with_reducible refine (placeOf_calls x b cb ss m wr h2 (hs.below s2.below)).mono ?_
        rintro e w3 ⟨oa, oc, rfl, o3, hb3⟩
        have s3 := s2.fresh hb3 o3 (Nat.le_refl _)
        clear s2 o3 hb3
        go_wp2_with fail
        with_reducible refine (placeOf_calls x ga gc (goneP ss ds) m w3 (by omega) (own_intsR s3.at3.own)).mono ?_
        rintro e w4 ⟨fa, fc, rfl, o4, hb4⟩
        have s4 := s3.fresh hb4 o4 (Nat.le_refl _)
        clear s3 o4 hb4
        have hO := placeR_len x ss m
        have hF := placeR_len x (goneP ss ds) m
        have VO := Lib.hid (fun y (hy : y ∈ placeR x ss m) => (placeR_valid y hy).1)
        have VF := Lib.hid (fun y (hy : y ∈ placeR x (goneP ss ds) m) => (placeR_valid y hy).1)
        have MV : Hid (moveP ss ds m x = match goneP (placeR x ss m) ds with | [] => [] | f :: _ => (goneP (placeR x (goneP ss ds) m) (placeR x ss m)).map fun t => (x, f, t)) := Lib.hid rfl
        generalize hold : placeR x ss m = old at *
        generalize hfresh : placeR x (goneP ss ds) m = fresh at *
        clear hold hfresh
        go_wp2_with fail
        with_reducible refine (without_calls oa oc old c cc ds w4 (by omega) (by omega) (own_intsR s4.at1.own) (hd.below s4.below) VO.out).mono ?_
        rintro e w5 ⟨la, lc, rfl, o5, hb5⟩
        have s5 := s4.fresh hb5 o5 (Nat.le_refl _)
        clear s4 o5 hb5
        have hL := goneP_len old ds
        have hN := goneP_len fresh old
        generalize goneP old ds = left at *
        cases left with
        | nil =>
          have MV2 := Lib.hid (show moveP ss ds m x = [] from MV.out)
          simp only [List.length_nil]
          go_wp2_with fail
          go_roundw
          case rel => exact ⟨k + 1, v, hlt, by go_num, by rw [SN.out, MV2.out, List.append_nil]; exact s5.drop.drop.drop⟩
          case measure => simp [intOf]; omega
        | cons f left =>
          have MV2 := Lib.hid (show moveP ss ds m x = (goneP fresh old).map fun t => (x, f, t) from MV.out)
          have hL1 : left.length ≤ 8 := by simp at hL; omega
          simp only [List.length_cons] at s5 hL ⊢
          go_wp2_with fail
          with_reducible refine (without_calls fa fc fresh oa oc old w5 (by omega) (by omega) (own_intsR s5.at1.own) (own_intsR s5.at2.own) VF.out).mono ?_
          rintro e w6 ⟨na, nc, rfl, o6, hb6⟩
          have s6 := s5.fresh hb6 o6 (Nat.le_refl _)
          clear s5 o6 hb6
          generalize goneP fresh old = N at *
          have s7 := (s6.under (fun h => h.under (fun h => h.drop.drop) (by simp)) (by simp)).at2.under (rs' := [row v 35 3 M.length (mcells M), row (.slice na N.length nc) 3 1 N.length (N.map (Value.int .i64)), row (.slice la (left.length + 1) lc) 3 1 (left.length + 1) ((f :: left).map (Value.int .i64)), row (.slice ga (goneP ss ds).length gc) 3 1 (goneP ss ds).length ((goneP ss ds).map (Value.int .i64))]) St.at2 (by simp [or_left_comm])
          clear s6
          obtain ⟨lg, c', e, _, _⟩ := s7.at3.own.form (by omega)
          cases e
          go_wp2_with fail
          go_loopw [66] (fun i wr => ∃ (j : Nat) (v' : Value), j ≤ N.length ∧ i = .int .i64 j ∧ St w wr [box G #[v'] 26, row v' 35 3 (M ++ (N.take j).map fun t => (x, f, t)).length (mcells (M ++ (N.take j).map fun t => (x, f, t))), row (.slice na N.length nc) 3 1 N.length (N.map (Value.int .i64)), row (.slice (some ⟨lg, 0, none⟩) (left.length + 1) lc) 3 1 (left.length + 1) ((f :: left).map (Value.int .i64)), row (.slice ga (goneP ss ds).length gc) 3 1 (goneP ss ds).length ((goneP ss ds).map (Value.int .i64))]) (fun i _ => N.length - (intOf i).toNat)
          case atStart => exact ⟨0, v, Nat.zero_le _, rfl, by simpa using s7⟩
          case round =>
            clear s7
            obtain ⟨j, v', hj, rfl, s8⟩ := hrel
            by_cases hlt2 : j < N.length
            · obtain ⟨ng, c', e, _, _⟩ := s8.at2.own.form (by omega)
              cases e
              have cn := s8.at2.own.cellAt j (by simp; omega)
              simp only [List.getElem?_map, List.getElem?_eq_getElem hlt2, Option.map_some] at cn
              have cl := s8.at3.own.cellAt 0 (by simp)
              simp only [List.map_cons, List.getElem?_cons_zero] at cl
              have j1 : (0 : Int) ≤ (j : Int) := by omega
              have j2 : (j : Int) < (N.length : Int) := by omega
              have hml : (M ++ (N.take j).map fun t => (x, f, t)).length ≤ 200 := by simp; omega
              have SJ := Lib.hid (show (M ++ (N.take (j + 1)).map fun t => (x, f, t)) = (M ++ (N.take j).map fun t => (x, f, t)) ++ [(x, f, N[j])] by rw [take_snocI hlt2, List.map_append, List.append_assoc]; rfl)
              generalize N[j] = y at *
              generalize (M ++ (N.take j).map fun t => (x, f, t)) = MM at *
              go_wp2_with fail
              refine (move_st G v' MM x f y s8 (by omega)).mono ?_
              rintro e w9 ⟨v9, rfl, s9⟩
              clear s8
              go_wp2_with fail
              go_roundw
              case rel => exact ⟨j + 1, v9, hlt2, by go_num, by rw [SJ.out]; exact s9⟩
              case measure => simp [intOf]; omega
            · rw [List.take_of_length_le (by omega)] at s8
              go_wp2_with fail
              go_roundw
              case rel => exact ⟨k + 1, v', hlt, by go_num, by rw [SN.out, MV2.out]; exact s8.under (fun h => h.under (fun h => h.drop.drop) (by simp)) (by simp)⟩
              case measure => simp [intOf]; omega
      · have e : ps.take k = ps := List.take_of_length_le (by omega)
        rw [e] at s2
        obtain ⟨d2, _⟩ := s2.cells
        have FIN := Lib.hid (gaveMoves s2.drop LR.out (rfl : true = true))
        clear s2
        go_wp2_with fail
        go_ret2
        exact FIN.out

end Go.Proofs.Ytebklbncfcdkmaa
