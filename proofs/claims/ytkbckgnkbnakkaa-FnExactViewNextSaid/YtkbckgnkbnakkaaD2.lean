/-
  The walks of the functions that draw a view. No statement is proved here.
-/
import Derived.Test.YtkbckgnkbnakkaaD1
import Derived.Test.YtkbckgnkbnakkaaFr
import Derived.Deep.DeepMust
namespace Go.Proofs.Ytkbckgnkbnakkaa
open Go.RowKit

def lit5 (i : Nat) : Int := if i = 0 then 7 else if i = 1 then 3 else if i = 2 then 9 else if i = 3 then 1 else 5
theorem lit5_cell (w : World) (i : Nat) (t : TypeId) (h : i < 5) : (w.alloc (.cells #[.int .i64 7, .int .i64 3, .int .i64 9, .int .i64 1, .int .i64 5] t)).cell? ⟨w.heap.size, i, none⟩ = some (.int .i64 (lit5 i)) := by
  rw [cell_of_heap (heap_alloc_new w _)]
  match i, h with
  | 0, _ => rfl
  | 1, _ => rfl
  | 2, _ => rfl
  | 3, _ => rfl
  | 4, _ => rfl
theorem lit5_bd (i : Nat) : 0 ≤ lit5 i ∧ lit5 i ≤ 100 := by unfold lit5; omega

/-- Block V holds a view of this number, with these ids, in a row of the call's own. -/
def ViewBox (w : World) (B V : Nat) (num : Int) (v : Value) (xs : List Int) : Prop :=
  w.heap[V]? = some (.cells #[.int .i64 num, v] 25 (0, 0)) ∧ w.ownsRow B 3 1 v xs.length (xs.map (Value.int .i64)) ∧ v.ownBlock ≠ some V

def DrawnView (w : World) (b : Nat) (s : Value) (M : Nat) (e : Ending) (w' : World) : Prop :=
  ∃ (num : Int) (g cap : Nat) (xs : List Int), e = .returned (.agg #[.int .i64 num, .slice (some ⟨g, 0, none⟩) xs.length cap]) ∧ -1 ≤ num ∧ num ≤ 1000 ∧ 1 ≤ xs.length ∧ xs.length ≤ 5 ∧ (∀ x ∈ xs, 0 ≤ x ∧ x ≤ 100) ∧
    w'.ownsRow w.heap.size 3 1 (.slice (some ⟨g, 0, none⟩) xs.length cap) xs.length (xs.map (Value.int .i64)) ∧ Rd w' b s M ∧ w.grownBy w' (some b)

theorem ownsRow_mono {w : World} {base base' : Nat} {e : TypeId} {size : Nat} {v : Value} {n : Nat} {xs : List Value} (h : w.ownsRow base e size v n xs) (hb : base' ≤ base) : w.ownsRow base' e size v n xs := by
  obtain ⟨h1, h2⟩ := h
  refine ⟨h1, ?_⟩
  rcases h2 with h2 | ⟨g, cap, cur, h3, h4, h5⟩
  · exact .inl h2
  · exact .inr ⟨g, cap, cur, h3, Nat.le_trans hb h4, h5⟩

theorem drawn_end {w wi : World} {b m V : Nat} {s : Value} {num : Int} {g cap n : Nat} {xs : List Int} (hn0 : n = xs.length) (hbl : b < w.heap.size) (hn : -1 ≤ num ∧ num ≤ 1000) (h1 : 1 ≤ xs.length ∧ xs.length ≤ 5) (hx : ∀ x ∈ xs, 0 ≤ x ∧ x ≤ 100)
    (hb : ViewBox wi (w.heap.size + 1) V num (.slice (some ⟨g, 0, none⟩) n cap) xs) (hr : Rd wi b s (m + 5)) (hg : w.grownBy wi (some b)) :
    DrawnView w b s (m + 5) (.returned (.agg #[.int .i64 num, .slice (some ⟨g, 0, none⟩) n cap])) ((wi.setCell ⟨w.heap.size, 0, none⟩ (.int .i64 num)).setCell ⟨w.heap.size, 1, none⟩ (.slice (some ⟨g, 0, none⟩) n cap)) := by
  subst hn0
  have o1 := hb.2.1
  have hne : (Value.slice (some ⟨g, 0, none⟩) xs.length cap).ownBlock ≠ some w.heap.size := fun e => by have := (o1.lt _ e).1; omega
  refine ⟨num, g, cap, xs, rfl, hn.1, hn.2, h1.1, h1.2, hx, ?_, ?_, ?_⟩
  · refine ownsRow_mono ?_ (Nat.le_succ _)
    exact (o1.kept (grown_put wi ⟨w.heap.size, 0, none⟩ _) (.inr hne)).kept (grown_put _ ⟨w.heap.size, 1, none⟩ _) (.inr hne)
  · exact (hr.grown (grown_put wi ⟨w.heap.size, 0, none⟩ _) (by simp; omega)).grown (grown_put _ ⟨w.heap.size, 1, none⟩ _) (by simp; omega)
  · exact grown_setNew (grown_setNew hg (p := ⟨w.heap.size, 0, none⟩) (Nat.le_refl _) _) (p := ⟨w.heap.size, 1, none⟩) (Nat.le_refl _) _

set_option maxHeartbeats 1000000 in
theorem l91View_calls (b m : Nat) {sl : Value} (w : World) (hr : Rd w b sl m) (hm : m ≤ 900000) :
    Calls Try.prog 44 #[.pointer (some ⟨b, 0, none⟩)] w (DrawnView w b sl (m + 5)) := by
  go_enter Try.func44, Try.ntmps44
  go_wp2_with fail
  refine (pick_calls b m _ _ (hr.grown (World.grownBy_alloc _ _ none) (by simp)) (by omega) (by omega)).mono ?_
  rintro e w1 ⟨k, rfl, hk0, hk1, hr1, hg1⟩
  go_wp2_with fail
  have hs1 := hg1.size
  simp at hs1
  have hr2 : Rd ((w1.alloc (.cells #[] 3)).alloc (.cells #[.int .i64 k, .slice (some ⟨w1.heap.size, 0, none⟩) 0 0] 25)) b sl (m + 1) := by
    refine hr1.grown (r := none) ?_ (by simp)
    exact grown_new (World.grownBy_alloc _ _ _) _
  refine (pick_calls b (m + 1) _ _ hr2 (by omega) (by omega)).mono ?_
  rintro e w2 ⟨q, rfl, hq0, hq1, hr3, hg2⟩
  go_wp2_with fail
  have hq1' := hq1 (by decide)
  have hs2 := hg2.size
  simp at hs2
  obtain ⟨N, hN, hN1, hN5⟩ : ∃ N : Nat, 1 + q = (N : Int) ∧ 1 ≤ N ∧ N ≤ 5 := ⟨(1 + q).toNat, by omega, by omega, by omega⟩
  rw [hN]
  have hbl : b < w.heap.size := hr.lt
  have hVg : w.heap.size + 1 < w1.heap.size + 1 := by omega
  have hbox : ViewBox w2 (w.heap.size + 1) (w1.heap.size + 1) k (.slice (some ⟨w1.heap.size, 0, none⟩) 0 0) [] := by
    refine ⟨heap_kept (heap_second w1 _ _) hg2 (by simp; omega), ?_, by simp [Value.ownBlock]⟩
    exact ((World.ownsRow_made w1 #[] 0 (by omega) (by simp [maxLen]) rfl).alloc _).kept hg2 (.inr (by simp [Value.ownBlock]; omega))
  have hres : w2.heap[w.heap.size]? = some (.cells #[.int .i64 0, .slice none 0 0] 25 (0, 0)) :=
    heap_kept (heap_two (heap_kept (heap_alloc_new w _) hg1 (by simp; omega)) _ _) hg2 (by simp; omega)
  have hgr : w.grownBy w2 (some b) := grown_trans (grown_new (grown_new (grown_trans (World.grownBy_alloc w _ _) hg1) _) _) hg2
  have hg0 := lit5_bd
  clear hN hr2 hr1 hg1 hg2
  generalize w1.heap.size + 1 = V at *
  generalize w1.heap.size = U at *
  go_loopw [5] (fun i wr => ∃ (v : Value) (xs : List Int), i = .int .i64 xs.length ∧ xs.length ≤ N ∧ (∀ x ∈ xs, 0 ≤ x ∧ x ≤ 100) ∧ ViewBox wr (w.heap.size + 1) V k v xs ∧ Rd wr b sl (m + 2) ∧ w.grownBy wr (some b) ∧ wr.heap[w.heap.size]? = some (.cells #[.int .i64 0, .slice none 0 0] 25 (0, 0))) (fun i _ => N - (intOf i).toNat)
  case atStart => exact ⟨_, [], rfl, Nat.zero_le _, by simp, hbox, hr3, hgr, hres⟩
  case round =>
    obtain ⟨v, xs, rfl, hj, hxs, ⟨hb1, hb2, hb3⟩, hR, hG, hres⟩ := hrel
    have hsz := hG.size
    by_cases hlt : xs.length < N
    · have hc1 : wr.cell? ⟨V, 1, none⟩ = some v := by rw [cell_of_heap hb1]; rfl
      have hfz : wr.frozen? ⟨V, 1, none⟩ = false := frozen_of_heap hb1
      have hVl := lt_of_heap hb1
      have i1 : (0 : Int) ≤ (xs.length : Int) := by omega
      have i2 : (xs.length : Int) < 5 := by omega
      have hcl := fun (W : World) => lit5_cell W xs.length 3 (by omega)
      go_wp2_with fail
      go_region_law
        ((refine step_app elem_int (by rfl) _ _ (by rfl) (w.heap.size + 1) v xs.length (xs.map (Value.int .i64)) (by rfl) (wr.heap.size + 1) 1 1 (by rfl) #[.int .i64 (lit5 xs.length)] 3 (0, 0) (by rfl) (by simp [Value.oneCell']) (by omega) (by omega) (by omega) (heap_second wr _ _) ((hb2.alloc _).alloc _).drew (by simp; omega) ?_); intro gg cap w3 hown1 hgrow hat hlt3; have hh3 := heap_kept (o := .cells #[.int .i64 k, v] 25 (0, 0)) (V := V) (by exact heap_two hb1 _ _) hgrow hb3; have hc3 := cell_of_heap (o := 1) hh3; have hf3 := frozen_of_heap (o := 1) hh3)
      all_goals
        have HB := box_app (f := 1) hb1 hb2 hb3 (by exact grown_drew (grown_new (World.grownBy_alloc wr _ none) _)) hown1 hgrow hat
        clear hown1 hgrow hat hh3 hc3 hf3 hcl hc1 hfz
        go_wp2
        go_roundw
        case rel => exact ⟨_, xs ++ [lit5 xs.length], by simp, by simp; omega, (fun x hx => by rcases List.mem_append.1 hx with h | h; exact hxs x h; (simp at h; subst h; exact hg0 xs.length)), ⟨by simpa using HB.box, by simpa using HB.own, HB.ne⟩, HB.rd _ _ _ hR (by omega) (by omega), HB.grown _ _ hG (by omega) (by omega), HB.kept _ _ hres (by omega) (fun e => by have := (hb2.lt _ e).1; omega)⟩
        case measure => simp [intOf]; omega
    · obtain rfl : xs.length = N := by omega
      go_wp2_with fail
      refine (pick_calls b (m + 2) _ _ hR (by omega) (by omega)).mono ?_
      rintro e w5 ⟨s, rfl, hs0, hs1, hR5, hg5⟩
      have hb1' := heap_kept hb1 hg5 (by simp; omega)
      have hb2' := hb2.kept hg5 (.inr (fun e => by have := (hb2.lt _ e).1; omega))
      have hres' := heap_kept hres hg5 (by simp; omega)
      have hG5 := grown_trans hG hg5
      obtain ⟨g, cap, rfl, hbg, hgl⟩ := hb2'.form (by omega)
      have hs5 := hG5.size
      have hc0 : w5.cell? ⟨V, 0, none⟩ = some (.int .i64 k) := by rw [cell_of_heap hb1']; rfl
      have hc1 : w5.cell? ⟨V, 1, none⟩ = some (.slice (some ⟨g, 0, none⟩) xs.length cap) := by rw [cell_of_heap hb1']; rfl
      clear hR hg5 hb1 hb2 hres hG
      by_cases hs : s = 0
      · subst hs
        go_wp2_with fail
        refine Free.wp_region_puts [4, 7, 11]
          (fun c _ w' => (c ≤ 2 → w5.grownBy w' (some b)) ∧ (c = 0 → Rd w' b sl (m + 3)) ∧ (c = 1 → Rd w' b sl (m + 4)) ∧ (c = 2 → Rd w' b sl (m + 5)) ∧
            (c = 3 → ∃ ys : List Int, ys.length = xs.length ∧ (∀ y ∈ ys, 0 ≤ y ∧ y ≤ 100) ∧ ViewBox w' (w.heap.size + 1) V k (.slice (some ⟨g, 0, none⟩) ys.length cap) ys ∧ Rd w' b sl (m + 5) ∧ w.grownBy w' (some b) ∧
              w'.heap[w.heap.size]? = some (.cells #[.int .i64 0, .slice none 0 0] 25 (0, 0))))
          (fun i w1 w2 => w1.grownBy w2 (if i = 11 then some g else some b))
          (fun j _ v w' => match j with
            | 0 => v = .pointer (some ⟨V, 1, none⟩)
            | 1 => v = .slice (some ⟨g, 0, none⟩) xs.length cap
            | 2 => v = .pointer (some ⟨b, 0, none⟩)
            | 3 => v = .int .i64 xs.length
            | 4 => ∃ q : Nat, v = .int .i64 q ∧ q < xs.length
            | 5 => ∃ x, v = .slice (some ⟨x, 0, none⟩) 3 3 ∧ w5.heap.size ≤ x ∧ w'.heap[x]? = some (.cells #[.int .i64 0, .int .i64 7, .int .i64 100] 3 (0, 0))
            | 6 => v = .pointer (some ⟨b, 0, none⟩)
            | 7 => ∃ q : Nat, v = .int .i64 q ∧ q < 3
            | 8 => ∃ x q, v = .pointer (some ⟨x, q, none⟩) ∧ w5.heap.size ≤ x ∧ w'.heap[x]? = some (.cells #[.int .i64 0, .int .i64 7, .int .i64 100] 3 (0, 0)) ∧ q < 3
            | 9 => ∃ z : Int, v = .int .i64 z ∧ 0 ≤ z ∧ z ≤ 100
            | 10 => ∃ q : Nat, v = .pointer (some ⟨g, q, none⟩) ∧ q < xs.length
            | 11 => True
            | _ => True)
          (by kernel_rfl) (by kernel_rfl) (by kernel_rfl) ?_ ?_ ?_ ?_
        · intro i j n n' u w1 w2 _ _ _ hR
          have hgl' := hgl
          have hkeep : ∀ x o, w5.heap.size ≤ x → w1.heap[x]? = some o → w2.heap[x]? = some o := fun x o hx ho => heap_kept ho hR (by split <;> simp <;> omega)
          match j with
          | 0 | 1 | 2 | 3 | 4 | 6 | 7 | 9 | 10 | 11 => exact id
          | 5 => rintro ⟨x, h1, h2, h3⟩; exact ⟨x, h1, h2, hkeep _ _ h2 h3⟩
          | 8 => rintro ⟨x, q, h1, h2, h3, h4⟩; exact ⟨x, q, h1, h2, hkeep _ _ h2 h3, h4⟩
          | n + 12 => exact id
        · exact ⟨fun _ => grown_drew (grown_refl _ _), fun _ => hR5, by omega, by omega, by omega⟩
        · refine ⟨?_, ?_, ?_, ?_, ?_, ?_, ?_, ?_, ?_, ?_, ?_, ?_⟩
          · intro n n1 n2 a w' hI hk K hK
            have h3 := Free.slot (v := .pointer (some ⟨V, 0, none⟩)) (hk 3)
            refine Free.plain rfl ?_
            go_simp
            exact hK _ _ rfl hI (grown_refl _ _)
          · intro n n1 n2 a w' hI hk K hK
            have h31 := Free.slot (v := .pointer (some ⟨V, 1, none⟩)) (hk 31)
            have n3 : n ≤ 2 := n2
            have hc : w'.cell? ⟨V, 1, none⟩ = some (.slice (some ⟨g, 0, none⟩) xs.length cap) := (hI.1 n3).cell hc1 (by simp; omega)
            refine Free.plain rfl ?_
            go_simp
            exact hK _ _ rfl hI (grown_refl _ _)
          · intro n n1 n2 a w' hI hk K hK
            have h0 := Free.slot (v := .pointer (some ⟨b, 0, none⟩)) (hk 0)
            refine Free.plain rfl ?_
            go_simp
            exact hK _ _ rfl hI (grown_refl _ _)
          · intro n n1 n2 a w' hI hk K hK
            have h0 := Free.slot (v := .int .i64 xs.length) (hk 4)
            refine Free.plain rfl ?_
            go_simp
            exact hK _ _ rfl hI (grown_refl _ _)
          · intro a w' hI hk K hK
            have h33 := Free.slot (v := .pointer (some ⟨b, 0, none⟩)) (hk 33)
            have h34 := Free.slot (v := .int .i64 xs.length) (hk 34)
            refine Free.plain rfl ?_
            go_simp
            refine (pick_calls b (m + 3) _ _ (hI.2.1 rfl) (by omega) (by omega)).mono ?_
            rintro e w7 ⟨q, rfl, hq0, hq1, hR7, hg7⟩
            have hq2 := hq1 (by omega)
            exact hK _ _ ⟨q.toNat, by rw [Int.toNat_of_nonneg hq0], by omega⟩ ⟨fun _ => grown_trans (hI.1 (by omega)) hg7, by omega, fun _ => hR7, by omega, by omega⟩ hg7
          · intro n n1 n2 a w' hI hk K hK
            refine Free.plain rfl ?_
            go_simp
            have n3 : n ≤ 2 := n2
            refine hK _ _ ⟨_, rfl, (hI.1 n3).size, heap_alloc_new _ _⟩ ⟨fun _ => grown_new (hI.1 n3) _, fun e => (hI.2.1 e).grown (World.grownBy_alloc _ _ none) (by simp), fun e => (hI.2.2.1 e).grown (World.grownBy_alloc _ _ none) (by simp), fun e => (hI.2.2.2.1 e).grown (World.grownBy_alloc _ _ none) (by simp), by omega⟩ (World.grownBy_alloc _ _ _)
          · intro n n1 n2 a w' hI hk K hK
            have h0 := Free.slot (v := .pointer (some ⟨b, 0, none⟩)) (hk 0)
            refine Free.plain rfl ?_
            go_simp
            exact hK _ _ rfl hI (grown_refl _ _)
          · intro a w' hI hk K hK
            have h37 := Free.slot (v := .pointer (some ⟨b, 0, none⟩)) (hk 37)
            refine Free.plain rfl ?_
            go_simp
            refine (pick_calls b (m + 4) _ _ (hI.2.2.1 rfl) (by omega) (by omega)).mono ?_
            rintro e w7 ⟨q, rfl, hq0, hq1, hR7, hg7⟩
            have hq2 := hq1 (by omega)
            exact hK _ _ ⟨q.toNat, by rw [Int.toNat_of_nonneg hq0], by omega⟩ ⟨fun _ => grown_trans (hI.1 (by omega)) hg7, by omega, by omega, fun _ => hR7, by omega⟩ hg7
          · intro n n1 n2 a w' hI hk K hK
            obtain ⟨x, h36', hx1, hx2⟩ := hk 36
            have h36 := Free.slot h36'
            obtain ⟨q, h38', hq⟩ := hk 38
            have h38 := Free.slot h38'
            have hq' : (q : Int) < 3 := by omega
            refine Free.plain rfl ?_
            go_simp
            exact hK _ _ ⟨x, q, rfl, hx1, hx2, hq⟩ hI (grown_refl _ _)
          · intro n n1 n2 a w' hI hk K hK
            obtain ⟨x, q, h39', hx1, hx2, hq⟩ := hk 39
            have h39 := Free.slot h39'
            obtain ⟨z, hz, hz0, hz1⟩ : ∃ z : Int, w'.cell? ⟨x, q, none⟩ = some (.int .i64 z) ∧ 0 ≤ z ∧ z ≤ 100 := by
              rw [cell_of_heap hx2]
              match q, hq with
              | 0, _ => exact ⟨0, rfl, by omega, by omega⟩
              | 1, _ => exact ⟨7, rfl, by omega, by omega⟩
              | 2, _ => exact ⟨100, rfl, by omega, by omega⟩
            refine Free.plain rfl ?_
            go_simp
            exact hK _ _ ⟨z, rfl, hz0, hz1⟩ hI (grown_refl _ _)
          · intro n n1 n2 a w' hI hk K hK
            have h32 := Free.slot (v := .slice (some ⟨g, 0, none⟩) xs.length cap) (hk 32)
            obtain ⟨q, h35', hq⟩ := hk 35
            have h35 := Free.slot h35'
            refine Free.plain rfl ?_
            go_simp
            exact hK _ _ ⟨q, rfl, hq⟩ hI (grown_refl _ _)
          · intro a w' hI hk K hK
            obtain ⟨q, h41', hq⟩ := hk 41
            have h41 := Free.slot h41'
            obtain ⟨z, h40', hz0, hz1⟩ := hk 40
            have h40 := Free.slot h40'
            have hg6 := hI.1 (Nat.le_refl _)
            have ho6 := hb2'.kept hg6 (.inr (fun e => by have := (hb2'.lt _ e).1; omega))
            have hc6 : w'.cell? ⟨g, q, none⟩ = some (.int .i64 (xs.getD q 0)) := by
              rw [ho6.cellAt q (by omega)]
              simp [hq]
            have hf6 := ho6.frozenAt q
            have hg7 := grown_put w' ⟨g, q, none⟩ (.int .i64 z)
            have hgV : g ≠ V := fun e => hb3 (by simp [Value.ownBlock, e])
            refine Free.plain rfl ?_
            go_simp
            refine hK undef _ trivial ⟨by omega, by omega, by omega, by omega, fun _ => ⟨xs.set q z, by simp, ?_, ⟨?_, ?_, ?_⟩, ?_, ?_, ?_⟩⟩ hg7
            · intro y hy
              rcases List.mem_or_eq_of_mem_set hy with h | h
              · exact hxs y h
              · subst h; exact ⟨hz0, hz1⟩
            · rw [show (xs.set q z).length = xs.length by simp]
              exact heap_kept (heap_kept hb1' hg6 (by simp; omega)) hg7 (by simpa using hgV)
            · have := (ho6.stored q (.int .i64 z)).1
              rw [show (xs.set q z).length = xs.length by simp]
              rw [List.map_set]
              exact this
            · simpa [Value.ownBlock] using hgV
            · exact (hI.2.2.2.1 rfl).grown hg7 (by simp; omega)
            · exact grown_setNew (grown_trans hG5 hg6) (p := ⟨g, q, none⟩) (by simp; omega) _
            · exact heap_kept (heap_kept hres' hg6 (by simp; omega)) hg7 (by simp; omega)
        · intro vs w6 hI _ hv
          obtain ⟨ys, hyl, hys, hbox6, hR6, hG6, hres6⟩ := hI.2.2.2.2 rfl
          rw [hyl] at hbox6
          have hc6 : w6.cell? ⟨V, 0, none⟩ = some (.int .i64 k) := by rw [cell_of_heap hbox6.1]; rfl
          have hd6 : w6.cell? ⟨V, 1, none⟩ = some (.slice (some ⟨g, 0, none⟩) xs.length cap) := by rw [cell_of_heap hbox6.1]; rfl
          have he6 : w6.cell? ⟨w.heap.size, 0, none⟩ = some (.int .i64 0) := by rw [cell_of_heap hres6]; rfl
          have hf6 : w6.cell? ⟨w.heap.size, 1, none⟩ = some (.slice none 0 0) := by rw [cell_of_heap hres6]; rfl
          have hz6 := frozen_of_heap (o := 0) hres6
          have hz7 := frozen_of_heap (o := 1) hres6
          have FIN := Lib.hid (drawn_end hyl.symm hbl ⟨by omega, by omega⟩ ⟨by omega, by omega⟩ hys hbox6 hR6 hG6)
          simp only [Free.puts]
          clear hv hI hbox6 hR6 hG6 hres6 hyl hys hb2' hb1' hres' hG5 hR5
          go_wp2
          exact bodyPost_ret (v := .agg #[.int .i64 k, .slice (some ⟨g, 0, none⟩) xs.length cap]) (by simp [results, Try.results44, go_sem, he6, hf6]) rfl FIN.out
      · by_cases hs' : s = 1
        · subst hs'
          go_wp2_with fail
          have hr9 := hR5.grown (World.grownBy_alloc w5 (.cells #[.int .i64 (-1), .int .i64 999, .int .i64 1000] 3) none) (by simp)
          refine (pick_calls b (m + 3) _ _ hr9 (by omega) (by omega)).mono ?_
          rintro e w7 ⟨q, rfl, hq0, hq1, hR7, hg7⟩
          have hq2 := hq1 (by omega)
          have hw7 := hg7.size
          simp at hw7
          have hbx := heap_kept (heap_alloc_new w5 (.cells #[.int .i64 (-1), .int .i64 999, .int .i64 1000] 3)) hg7 (by simp; omega)
          have k1 := heap_kept (heap_one hb1' (.cells #[.int .i64 (-1), .int .i64 999, .int .i64 1000] 3)) hg7 (by simp; omega)
          have k2 := (hb2'.alloc (.cells #[.int .i64 (-1), .int .i64 999, .int .i64 1000] 3)).kept hg7 (.inr (fun e => by have := (hb2'.lt _ e).1; omega))
          have k3 := heap_kept (heap_one hres' (.cells #[.int .i64 (-1), .int .i64 999, .int .i64 1000] 3)) hg7 (by simp; omega)
          have k4 := grown_trans (grown_new hG5 (.cells #[.int .i64 (-1), .int .i64 999, .int .i64 1000] 3)) hg7
          obtain ⟨p, rfl⟩ := Int.eq_ofNat_of_zero_le hq0
          obtain ⟨z, hz, hz0, hz1⟩ : ∃ z : Int, w7.cell? ⟨w5.heap.size, p, none⟩ = some (.int .i64 z) ∧ -1 ≤ z ∧ z ≤ 1000 := by
            rw [cell_of_heap hbx]
            match p, (show p < 3 by omega) with
            | 0, _ => exact ⟨-1, rfl, by omega, by omega⟩
            | 1, _ => exact ⟨999, rfl, by omega, by omega⟩
            | 2, _ => exact ⟨1000, rfl, by omega, by omega⟩
          have c0 : w7.cell? ⟨V, 0, none⟩ = some (.int .i64 k) := by rw [cell_of_heap k1]; rfl
          have f0 := frozen_of_heap (o := 0) k1
          have hg8 := grown_put w7 ⟨V, 0, none⟩ (.int .i64 z)
          have j1 : (w7.setCell ⟨V, 0, none⟩ (.int .i64 z)).heap[V]? = some (.cells #[.int .i64 z, .slice (some ⟨g, 0, none⟩) xs.length cap] 25 (0, 0)) := heap_set k1 _
          have j3 := heap_kept k3 hg8 (by simp; omega)
          have d0 : (w7.setCell ⟨V, 0, none⟩ (.int .i64 z)).cell? ⟨V, 0, none⟩ = some (.int .i64 z) := by rw [cell_of_heap j1]; rfl
          have d1 : (w7.setCell ⟨V, 0, none⟩ (.int .i64 z)).cell? ⟨V, 1, none⟩ = some (.slice (some ⟨g, 0, none⟩) xs.length cap) := by rw [cell_of_heap j1]; rfl
          have he6 : (w7.setCell ⟨V, 0, none⟩ (.int .i64 z)).cell? ⟨w.heap.size, 0, none⟩ = some (.int .i64 0) := by rw [cell_of_heap j3]; rfl
          have hf6 : (w7.setCell ⟨V, 0, none⟩ (.int .i64 z)).cell? ⟨w.heap.size, 1, none⟩ = some (.slice none 0 0) := by rw [cell_of_heap j3]; rfl
          have hz6 := frozen_of_heap (o := 0) j3
          have hz7 := frozen_of_heap (o := 1) j3
          have FIN := Lib.hid (drawn_end rfl hbl ⟨hz0, hz1⟩ ⟨hN1, hN5⟩ hxs ⟨j1, k2.kept hg8 (.inr hb3), hb3⟩ ((hR7.grown hg8 (by simp; omega)).mono (m' := m + 5) (by omega)) (grown_setNew k4 (p := ⟨V, 0, none⟩) (by simp; omega) _))
          clear hb1' hb2' hres' hR5 hG5 hbx k1 k2 k3 k4 hg7 hR7 hg8 j1 j3 hr9
          go_wp2_with fail
          exact bodyPost_ret (v := .agg #[.int .i64 z, .slice (some ⟨g, 0, none⟩) xs.length cap]) (by simp [results, Try.results44, go_sem, he6, hf6]) rfl FIN.out
        · have e0 : (s == 0) = false := by simpa using hs
          have e1 : (s == 1) = false := by simpa using hs'
          have he6 : w5.cell? ⟨w.heap.size, 0, none⟩ = some (.int .i64 0) := by rw [cell_of_heap hres']; rfl
          have hf6 : w5.cell? ⟨w.heap.size, 1, none⟩ = some (.slice none 0 0) := by rw [cell_of_heap hres']; rfl
          have hz6 := frozen_of_heap (o := 0) hres'
          have hz7 := frozen_of_heap (o := 1) hres'
          have FIN := Lib.hid (drawn_end rfl hbl ⟨by omega, by omega⟩ ⟨hN1, hN5⟩ hxs ⟨hb1', hb2', hb3⟩ (hR5.mono (m' := m + 5) (by omega)) hG5)
          clear hs hs' hb1' hb2' hres' hR5 hG5
          go_wp2_with fail
          exact bodyPost_ret (v := .agg #[.int .i64 k, .slice (some ⟨g, 0, none⟩) xs.length cap]) (by simp [results, Try.results44, go_sem, he6, hf6]) rfl FIN.out

def DrawnViewAlone (w : World) (e : Ending) (w' : World) : Prop :=
  ∃ (num : Int) (g cap : Nat) (xs : List Int), e = .returned (.agg #[.int .i64 num, .slice (some ⟨g, 0, none⟩) xs.length cap]) ∧ -1 ≤ num ∧ num ≤ 1000 ∧ 1 ≤ xs.length ∧ xs.length ≤ 5 ∧ (∀ x ∈ xs, 0 ≤ x ∧ x ≤ 100) ∧
    w'.ownsRow w.heap.size 3 1 (.slice (some ⟨g, 0, none⟩) xs.length cap) xs.length (xs.map (Value.int .i64)) ∧ Below w.heap.size w w'

set_option maxHeartbeats 400000 in
theorem drawViewValid_calls (a : Option Addr) (n cap : Nat) (w : World) (hc : n ≤ cap) (hm : cap ≤ maxLen) (hb : BytesAt w a n) :
    Calls Try.prog 15 #[.slice a n cap] w (DrawnViewAlone w) := by
  go_enter Try.func15, Try.ntmps15
  go_wp2_with fail
  refine (l6Open_calls a n cap _ hc hm (hb.grown (World.grownBy_alloc w _ none) (by simp))).mono ?_
  rintro e w1 ⟨rfl, ⟨_, hr1⟩, hb1⟩
  go_wp2_with fail
  simp at hr1 hb1
  refine (l91View_calls _ 0 _ hr1 (by omega)).mono ?_
  rintro e w2 ⟨num, g, cap', xs, rfl, h1, h2, h3, h4, h5, h6, h7, h8⟩
  have s1 := hb1.size
  simp at s1
  have hR : w2.heap[w.heap.size]? = some (.cells #[.int .i64 0, .slice none 0 0] 25 (0, 0)) :=
    heap_kept ((hb1.block w.heap.size (by omega)).trans (heap_alloc_new w _)) h8 (by simp)
  have hc0 : w2.cell? ⟨w.heap.size, 0, none⟩ = some (.int .i64 0) := by rw [cell_of_heap hR]; rfl
  have hc1 : w2.cell? ⟨w.heap.size, 1, none⟩ = some (.slice none 0 0) := by rw [cell_of_heap hR]; rfl
  have hf0 := frozen_of_heap (o := 0) hR
  have hf1 := frozen_of_heap (o := 1) hR
  have hne : g ≠ w.heap.size := by have := h6.lt g rfl; omega
  have fin : DrawnViewAlone w (.returned (.agg #[.int .i64 num, .slice (some ⟨g, 0, none⟩) xs.length cap'])) ((w2.setCell ⟨w.heap.size, 0, none⟩ (.int .i64 num)).setCell ⟨w.heap.size, 1, none⟩ (.slice (some ⟨g, 0, none⟩) xs.length cap')) := by
    refine ⟨num, g, cap', xs, rfl, h1, h2, h3, h4, h5, ?_, ?_⟩
    · refine ownsRow_mono ?_ (show w.heap.size ≤ w1.heap.size by omega)
      exact (h6.kept (grown_put w2 ⟨w.heap.size, 0, none⟩ _) (.inr (by simpa [Value.ownBlock] using hne))).kept (grown_put _ ⟨w.heap.size, 1, none⟩ _) (.inr (by simpa [Value.ownBlock] using hne))
    · refine grown_below (grown_setNew (grown_setNew (grown_own ?_ h8 (by simp)) (p := ⟨w.heap.size, 0, none⟩) (Nat.le_refl _) _) (p := ⟨w.heap.size, 1, none⟩) (Nat.le_refl _) _)
      exact grown_trans (World.grownBy_alloc w _ none) (below_grown (by simpa using hb1) none)
  have FIN := Lib.hid fin
  clear fin hR h6 h7 h8 hr1 hb1
  go_wp2_with fail
  exact bodyPost_ret (v := .agg #[.int .i64 num, .slice (some ⟨g, 0, none⟩) xs.length cap']) (by simp [results, Try.results15, go_sem, hc0, hc1]) rfl FIN.out

end Go.Proofs.Ytkbckgnkbnakkaa
