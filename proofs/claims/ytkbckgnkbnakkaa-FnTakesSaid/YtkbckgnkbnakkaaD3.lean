/-
  The walk of DrawViewTakes. No statement is proved here.
-/
import Derived.Test.YtkbckgnkbnakkaaD2
import Derived.Deep.RegionHeld3
namespace Go.Proofs.Ytkbckgnkbnakkaa
open Go.RowKit

def DrawnTakes (w : World) (e : Ending) (w' : World) : Prop :=
  ∃ (num f t n : Int) (g cap : Nat) (xs : List Int), e = .returned (.tuple #[.agg #[.int .i64 num, .slice (some ⟨g, 0, none⟩) xs.length cap], .int .i64 f, .int .i64 t, .int .i64 n]) ∧ -1 ≤ num ∧ num ≤ 1000 ∧ -1 ≤ n ∧ n ≤ 1001 ∧ 1 ≤ xs.length ∧ xs.length ≤ 5 ∧
    w'.ownsRow w.heap.size 3 1 (.slice (some ⟨g, 0, none⟩) xs.length cap) xs.length (xs.map (Value.int .i64)) ∧ Below w.heap.size w w'

theorem cell_set2 {w : World} {V o R : Nat} {v u1 u2 : Value} (h : w.cell? ⟨V, o, none⟩ = some v) (hne : V ≠ R) : ((w.setCell ⟨R, 0, none⟩ u1).setCell ⟨R, 1, none⟩ u2).cell? ⟨V, o, none⟩ = some v := by
  rw [World.cell?_setCell_other _ _ _ _ (fun e => hne (congrArg Addr.block e).symm), World.cell?_setCell_other _ _ _ _ (fun e => hne (congrArg Addr.block e).symm)]
  exact h
theorem takes_end {w wi : World} {base : Nat} {num f t n : Int} {g cap : Nat} {xs : List Int} (h1 : -1 ≤ num) (h2 : num ≤ 1000) (h3 : 1 ≤ xs.length) (h4 : xs.length ≤ 5)
    (ho : wi.ownsRow base 3 1 (.slice (some ⟨g, 0, none⟩) xs.length cap) xs.length (xs.map (Value.int .i64))) (hb : w.heap.size < base) (hg : w.grownBy wi none) (h5 : -1 ≤ n) (h6 : n ≤ 1001) :
    DrawnTakes w (.returned (.tuple #[.agg #[.int .i64 num, .slice (some ⟨g, 0, none⟩) xs.length cap], .int .i64 f, .int .i64 t, .int .i64 n]))
      ((wi.setCell ⟨w.heap.size, 0, none⟩ (.int .i64 num)).setCell ⟨w.heap.size, 1, none⟩ (.slice (some ⟨g, 0, none⟩) xs.length cap)) := by
  have hne : g ≠ w.heap.size := by have := ho.lt g rfl; omega
  refine ⟨num, f, t, n, g, cap, xs, rfl, h1, h2, h5, h6, h3, h4, ?_, ?_⟩
  · refine ownsRow_mono ?_ (Nat.le_of_lt hb)
    exact (ho.kept (grown_put wi ⟨w.heap.size, 0, none⟩ _) (.inr (by simpa [Value.ownBlock] using hne))).kept (grown_put _ ⟨w.heap.size, 1, none⟩ _) (.inr (by simpa [Value.ownBlock] using hne))
  · exact grown_below (grown_setNew (grown_setNew hg (p := ⟨w.heap.size, 0, none⟩) (Nat.le_refl _) _) (p := ⟨w.heap.size, 1, none⟩) (Nat.le_refl _) _)

set_option maxHeartbeats 1000000 in
theorem drawViewTakes_calls (a : Option Addr) (n cap : Nat) (w : World) (hc : n ≤ cap) (hm : cap ≤ maxLen) (hb : BytesAt w a n) :
    Calls Try.prog 22 #[.slice a n cap] w (DrawnTakes w) := by
  go_enter Try.func22, Try.ntmps22
  go_wp2_with fail
  refine (l6Open_calls a n cap _ hc hm (hb.grown (World.grownBy_alloc w _ none) (by simp))).mono ?_
  rintro e w1 ⟨rfl, hr1, hb1⟩
  go_wp2_with fail
  simp at hr1 hb1
  refine (l91View_calls _ 0 _ hr1 (by omega)).mono ?_
  rintro e w2 ⟨num, g, cap', xs, rfl, h1, h2, h3, h4, h5, h6, h7, h8⟩
  have s1 := hb1.size
  have s2 := h8.size
  simp at s1
  have hR : w2.heap[w.heap.size]? = some (.cells #[.int .i64 0, .slice none 0 0] 25 (0, 0)) :=
    heap_kept ((hb1.block w.heap.size (by omega)).trans (heap_alloc_new w _)) h8 (by simp)
  have hG2 : w.grownBy w2 none := grown_own (grown_trans (World.grownBy_alloc w _ none) (below_grown (by simpa using hb1) none)) h8 (by simp)
  have hV3 := heap_alloc_new w2 (.cells #[.int .i64 num, .slice (some ⟨g, 0, none⟩) xs.length cap'] 25)
  have hR3 := heap_one hR (.cells #[.int .i64 num, .slice (some ⟨g, 0, none⟩) xs.length cap'] 25)
  have ho3 := h6.alloc (.cells #[.int .i64 num, .slice (some ⟨g, 0, none⟩) xs.length cap'] 25)
  have hG3 := grown_new hG2 (.cells #[.int .i64 num, .slice (some ⟨g, 0, none⟩) xs.length cap'] 25)
  have hr3 := h7.grown (World.grownBy_alloc w2 (.cells #[.int .i64 num, .slice (some ⟨g, 0, none⟩) xs.length cap'] 25) none) (by simp)
  have hs3 : (w2.alloc (.cells #[.int .i64 num, .slice (some ⟨g, 0, none⟩) xs.length cap'] 25)).heap.size = w2.heap.size + 1 := by simp
  have hgw := (h6.lt g rfl)
  have hsR : w.heap.size + 1 < w1.heap.size := hr1.lt
  go_wp2_with fail
  generalize w2.alloc (.cells #[.int .i64 num, .slice (some ⟨g, 0, none⟩) xs.length cap'] 25) = w3 at *
  generalize w2.heap.size = V at *
  clear h6 h7 h8 hG2 hR hr1 hb1 hb
  refine (pick_calls (w.heap.size + 1) 5 _ _ hr3 (by omega) (by omega)).mono ?_
  rintro e w4 ⟨i, rfl, hi0, hi1, hr4, hg4⟩
  have hi2 := hi1 (by omega)
  obtain ⟨k, rfl⟩ := Int.eq_ofNat_of_zero_le hi0
  have hV4 := heap_kept hV3 hg4 (by simp; omega)
  have hR4 := heap_kept hR3 hg4 (by simp)
  have ho4 := ho3.kept hg4 (.inr (by simp [Value.ownBlock]; omega))
  have hG4 := grown_own hG3 hg4 (by simp)
  have hs4 := hg4.size
  have c0 : w4.cell? ⟨V, 0, none⟩ = some (.int .i64 num) := by rw [cell_of_heap hV4]; rfl
  have c1 : w4.cell? ⟨V, 1, none⟩ = some (.slice (some ⟨g, 0, none⟩) xs.length cap') := by rw [cell_of_heap hV4]; rfl
  have hk : k < xs.length := by omega
  have e0 : ((xs.length : Int) == 0) = false := by rw [beq_eq_false_iff_ne]; omega
  have e1 : ¬ (xs.length : Int) = 0 := by omega
  have e2 : ¬ xs.length = 0 := by omega
  have e3 : (1 : Int) ≤ (xs.length : Int) := by omega
  clear hV3 hR3 ho3 hG3 hr3 hg4 hi1
  go_wp2_with fail
  go_region_held3 (fun w' => w'.cell? ⟨V, 0, none⟩ = some (.int .i64 num) ∧ w'.cell? ⟨V, 1, none⟩ = some (.slice (some ⟨g, 0, none⟩) xs.length cap'))
    (first | go_keep | (go_split_ands; exact ⟨d0, d1⟩))
    ((go_at_call 50; refine (pick_calls (w.heap.size + 1) 6 _ _ (by exact hr4) (by omega) (by omega)).mono ?_; rintro e w5 ⟨q, rfl, hq0, hq1, hr5, hg5'⟩; have hg5 := drew_grown hg5'; have d0 : w5.cell? ⟨V, 0, none⟩ = some (.int .i64 num) := hg5.cell c0 (by simp; omega); have d1 : w5.cell? ⟨V, 1, none⟩ = some (.slice (some ⟨g, 0, none⟩) xs.length cap') := hg5.cell c1 (by simp; omega); have hm1 : -1 ≤ q * ((xs.length : Int) - 2) ∧ q * ((xs.length : Int) - 2) ≤ 3 := (by have := hq1 (by omega); rcases (show q = 0 ∨ q = 1 by omega) with rfl | rfl <;> omega); have hm2 : 0 ≤ (k : Int) + 1 + q * ((xs.length : Int) - 2) := (by omega)))
  obtain ⟨kk, hkk, hkl⟩ : ∃ kk : Nat, ((k : Int) + 1 + q * ((xs.length : Int) - 2)) % (xs.length : Int) = (kk : Int) ∧ kk < xs.length :=
    ⟨(((k : Int) + 1 + q * ((xs.length : Int) - 2)) % (xs.length : Int)).toNat, (Int.toNat_of_nonneg (Int.emod_nonneg _ e1)).symm, by have := Int.emod_lt_of_pos ((k : Int) + 1 + q * ((xs.length : Int) - 2)) (show (0 : Int) < (xs.length : Int) by omega); have := Int.emod_nonneg ((k : Int) + 1 + q * ((xs.length : Int) - 2)) e1; omega⟩
  have we1 : IntKind.i64.wrap ((k : Int) + 1) = (k : Int) + 1 := by rw [IntKind.wrap_i64]; omega
  have we2 : IntKind.i64.wrap ((xs.length : Int) - 2) = (xs.length : Int) - 2 := by rw [IntKind.wrap_i64]; omega
  have we3 : IntKind.i64.wrap (q * ((xs.length : Int) - 2)) = q * ((xs.length : Int) - 2) := by rw [IntKind.wrap_i64]; omega
  have we4 : IntKind.i64.wrap ((k : Int) + 1 + q * ((xs.length : Int) - 2)) = (k : Int) + 1 + q * ((xs.length : Int) - 2) := by rw [IntKind.wrap_i64]; omega
  rw [we1, we2, we3, we4, Int.tmod_eq_emod_of_nonneg hm2, hkk]
  clear we1 we2 we3 we4
  have hV5 := heap_kept hV4 hg5 (by simp; omega)
  have hR5 := heap_kept hR4 hg5 (by simp)
  have ho5 := ho4.kept hg5 (.inr (by simp [Value.ownBlock]; omega))
  have hG5 := grown_own hG4 hg5 (by simp)
  have hs5 := hg5.size
  clear hg5' hkk hm1 hm2 hV4 hR4 ho4 hG4 hr4 hg5 c0 c1 hq1
  go_wp2_with fail
  refine (pick_calls (w.heap.size + 1) 7 _ _ hr5 (by omega) (by omega)).mono ?_
  rintro e w6 ⟨p, rfl, hp0, hp1, hr6, hg6⟩
  have hV6 := heap_kept hV5 hg6 (by simp; omega)
  have hR6 := heap_kept hR5 hg6 (by simp)
  have ho6 := ho5.kept hg6 (.inr (by simp [Value.ownBlock]; omega))
  have hG6 := grown_own hG5 hg6 (by simp)
  have hs6 := hg6.size
  clear hV5 hR5 ho5 hG5 hr5 hg6 d0 d1 hp1
  have c0 : w6.cell? ⟨V, 0, none⟩ = some (.int .i64 num) := by rw [cell_of_heap hV6]; rfl
  have c1 : w6.cell? ⟨V, 1, none⟩ = some (.slice (some ⟨g, 0, none⟩) xs.length cap') := by rw [cell_of_heap hV6]; rfl
  have ck : w6.cell? ⟨g, kk, none⟩ = some (.int .i64 xs[kk]) := by rw [ho6.cellAt kk (by omega)]; simp [hkl]
  have ci : w6.cell? ⟨g, k, none⟩ = some (.int .i64 xs[k]) := by rw [ho6.cellAt k (by omega)]; simp [hk]
  have j1 : (0 : Int) ≤ (kk : Int) := by omega
  have nV : V ≠ w.heap.size := by omega
  have nG : g ≠ w.heap.size := by omega
  have j2 : (kk : Int) < (xs.length : Int) := by omega
  have j3 : (0 : Int) ≤ (k : Int) := by omega
  have j4 : (k : Int) < (xs.length : Int) := by omega
  by_cases hp : p = 0
  · subst hp
    go_wp2_with fail
    go_region_held3 (fun w' => w'.cell? ⟨V, 0, none⟩ = some (.int .i64 num) ∧ w'.cell? ⟨V, 1, none⟩ = some (.slice (some ⟨g, 0, none⟩) xs.length cap') ∧ w'.cell? ⟨g, kk, none⟩ = some (.int .i64 xs[kk]))
      (first | go_keep | (go_split_ands; exact ⟨d0, d1, dk⟩) | (go_split_ands; exact ⟨cell_set2 d0 nV, cell_set2 d1 nV, cell_set2 dk nG⟩))
      ((go_at_call 50; refine (pick_calls (w.heap.size + 1) 8 _ _ (by exact hr6) (by omega) (by omega)).mono ?_; rintro e w7 ⟨q', rfl, hq0', hq1', hr7, hg7'⟩; have hg7 := drew_grown hg7'; have d0 : w7.cell? ⟨V, 0, none⟩ = some (.int .i64 num) := hg7.cell c0 (by simp; omega); have d1 : w7.cell? ⟨V, 1, none⟩ = some (.slice (some ⟨g, 0, none⟩) xs.length cap') := hg7.cell c1 (by simp; omega); have dk : w7.cell? ⟨g, kk, none⟩ = some (.int .i64 xs[kk]) := hg7.cell ck (by simp; omega); have hR7 := heap_kept hR6 hg7 (by simp); have r0 : w7.cell? ⟨w.heap.size, 0, none⟩ = some (.int .i64 0) := (by rw [cell_of_heap hR7]; rfl); have r1 : w7.cell? ⟨w.heap.size, 1, none⟩ = some (.slice none 0 0) := (by rw [cell_of_heap hR7]; rfl); have z0 := frozen_of_heap (o := 0) hR7; have z1 := frozen_of_heap (o := 1) hR7))
    have hG7 := grown_own hG6 hg7 (by simp)
    have ho7 := ho6.kept hg7 (.inr (by simp [Value.ownBlock]; omega))
    have FIN := Lib.hid (fun f t => takes_end (f := f) (t := t) (n := num) h1 h2 h3 h4 ho7 (by omega) hG7 (by omega) (by omega))
    clear hG7 ho7 hg7 hg7' hR7 hr7 hV6 hR6 ho6 hG6 hr6
    go_wp2_with fail
    exact bodyPost_ret (v := .tuple #[.agg #[.int .i64 num, .slice (some ⟨g, 0, none⟩) xs.length cap'], .int .i64 q', .int .i64 xs[kk], .int .i64 num]) (by simp [results, Try.results22, go_sem, r0, r1]) rfl (FIN.out _ _)
  · have hp' : (p == 0) = false := by simpa using hp
    clear hp
    go_wp2_with fail
    go_region_held3 (fun w' => w'.cell? ⟨V, 0, none⟩ = some (.int .i64 num) ∧ w'.cell? ⟨V, 1, none⟩ = some (.slice (some ⟨g, 0, none⟩) xs.length cap') ∧ w'.cell? ⟨g, kk, none⟩ = some (.int .i64 xs[kk]) ∧ w'.cell? ⟨g, k, none⟩ = some (.int .i64 xs[k]))
      (first | go_keep | (go_split_ands; exact ⟨d0, d1, dk, di⟩) | (go_split_ands; exact ⟨cell_set2 d0 nV, cell_set2 d1 nV, cell_set2 dk nG, cell_set2 di nG⟩))
      ((go_at_call 50; refine (pick_calls (w.heap.size + 1) 8 _ _ (by exact hr6) (by omega) (by omega)).mono ?_; rintro e w7 ⟨q', rfl, hq0', hq1', hr7, hg7'⟩; have hg7 := drew_grown hg7'; have d0 : w7.cell? ⟨V, 0, none⟩ = some (.int .i64 num) := hg7.cell c0 (by simp; omega); have d1 : w7.cell? ⟨V, 1, none⟩ = some (.slice (some ⟨g, 0, none⟩) xs.length cap') := hg7.cell c1 (by simp; omega); have dk : w7.cell? ⟨g, kk, none⟩ = some (.int .i64 xs[kk]) := hg7.cell ck (by simp; omega); have di : w7.cell? ⟨g, k, none⟩ = some (.int .i64 xs[k]) := hg7.cell ci (by simp; omega); have hR7 := heap_kept hR6 hg7 (by simp); have r0 : w7.cell? ⟨w.heap.size, 0, none⟩ = some (.int .i64 0) := (by rw [cell_of_heap hR7]; rfl); have r1 : w7.cell? ⟨w.heap.size, 1, none⟩ = some (.slice none 0 0) := (by rw [cell_of_heap hR7]; rfl); have z0 := frozen_of_heap (o := 0) hR7; have z1 := frozen_of_heap (o := 1) hR7; have hq2' := hq1' (by omega)))
    have hG7 := grown_own hG6 hg7 (by simp)
    have ho7 := ho6.kept hg7 (.inr (by simp [Value.ownBlock]; omega))
    have FIN := Lib.hid (fun f t n a b => takes_end (f := f) (t := t) (n := n) h1 h2 h3 h4 ho7 (by omega) hG7 a b)
    clear hG7 ho7 hg7 hg7' hR7 hr7 hV6 hR6 ho6 hG6 hr6
    have we1 : IntKind.i64.wrap (q'.tdiv 5) = q' / 5 := by rw [IntKind.wrap_i64, Int.tdiv_eq_ediv_of_nonneg hq0']; omega
    have we2 : -1 ≤ IntKind.i64.wrap (num + q' / 5) ∧ IntKind.i64.wrap (num + q' / 5) ≤ 1001 := by rw [IntKind.wrap_i64]; omega
    rw [← we1] at we2
    have WE := Lib.hid we2
    clear we1 we2
    go_wp2_with fail
    exact bodyPost_ret (v := .tuple #[.agg #[.int .i64 num, .slice (some ⟨g, 0, none⟩) xs.length cap'], .int .i64 xs[k], .int .i64 xs[kk], .int .i64 (IntKind.i64.wrap (num + IntKind.i64.wrap (q'.tdiv 5)))]) (by simp [results, Try.results22, go_sem, r0, r1]) rfl (FIN.out _ _ _ WE.out.1 WE.out.2)

end Go.Proofs.Ytkbckgnkbnakkaa
