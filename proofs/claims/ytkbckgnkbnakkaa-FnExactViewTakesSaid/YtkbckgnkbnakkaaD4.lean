/-
  Picks and reads, told by resources; the walk of DrawViewNext. No statement is proved here.
-/
import Derived.Test.YtkbckgnkbnakkaaD2
import Derived.Test.YtkbckgnkbnakkaaSt
namespace Go.Proofs.Ytkbckgnkbnakkaa
open Go.RowKit

theorem rd_bytes {w0 w : World} {rs : List Res} {b m : Nat} (h : St w0 w (rd w0 b m :: rs)) : ∃ (a : Option Addr) (n cap p : Nat), w.heap[b]? = some (.cells #[.slice a n cap, .int .i64 p] 77 (0, 0)) ∧ p ≤ m ∧ n ≤ 2000 ∧ BytesAt w0 a n ∧ BytesAt w a n ∧ ∀ x, a = some x → n ≠ 0 → x.block < b := by
  obtain ⟨a, n, cap, p, h1, h2, h3, h4⟩ := h.1
  refine ⟨a, n, cap, p, h1, h2, h3, h4, h4.grown (below_grown h.below none) (by simp), fun x hx hn => ?_⟩
  rcases h4 with h4 | ⟨c, off, rfl, hc⟩
  · exact absurd h4 hn
  · cases hx
    obtain ⟨z, _, hz⟩ := hc 0 (by omega)
    have := lt_of_cell hz
    have := (h.2.1 b rfl).1
    show c < b
    omega
/-- A pick, told by resources. -/
theorem pick_st {w0 w : World} {rs : List Res} (b m : Nat) (n : Int) (h : St w0 w (rd w0 b m :: rs)) (hm : m ≤ 1000000) (hn : n ≤ 1000000) :
    Calls Try.prog 50 #[.pointer (some ⟨b, 0, none⟩), .int .i64 n] w fun e w' => ∃ k : Int, e = .returned (.int .i64 k) ∧ 0 ≤ k ∧ (1 ≤ n → k < n) ∧ St w0 w' (rd w0 b (m + 1) :: rs) := by
  obtain ⟨a, l, cap, p, h1, h2, h3, h4, h5, h6⟩ := rd_bytes h
  refine (pick_core b m n w a l cap p h1 h2 h3 h5 h6 hm hn).mono ?_
  rintro e w' ⟨k, rfl, k0, k1, hh, hg⟩
  refine ⟨k, rfl, k0, k1, h.turn (r' := rd w0 b (m + 1)) hg ⟨a, l, cap, p + 1, hh, by omega, h3, h4⟩ (fun _ h => .inl h) (fun c hc => ?_)⟩
  cases hc
  exact lt_of_heap hh
theorem l6Open_st {w0 w : World} {rs : List Res} (a : Option Addr) (n cap : Nat) (h : St w0 w rs) (hc : n ≤ cap) (hm : cap ≤ maxLen) (hb : BytesAt w0 a n) :
    Calls Try.prog 45 #[.slice a n cap] w fun e w' => ∃ b, e = .returned (.pointer (some ⟨b, 0, none⟩)) ∧ St w0 w' (rd w0 b 0 :: rs) := by
  refine (l6Open_at a n cap w hc hm (hb.grown (below_grown h.below none) (by simp))).mono ?_
  rintro e w' ⟨rfl, ⟨k, hk, hk2, hh⟩, hb'⟩
  refine ⟨_, rfl, h.add (below_grown hb' none) ⟨a, k, cap, 0, hh, Nat.le_refl _, hk2, ?_⟩ (fun c hc => by cases hc; exact ⟨Nat.le_refl _, lt_of_heap hh⟩)⟩
  rcases hb with h0 | ⟨c, off, e, hcell⟩
  · exact .inl (by omega)
  · exact .inr ⟨c, off, e, fun j hj => hcell j (by omega)⟩
theorem add_st {w0 w : World} {rs : List Res} (b : Nat) (xs : List Int) (n : Int) (h : St w0 w (bits b xs :: rs)) :
    Calls Try.prog 56 #[.pointer (some ⟨b, 0, none⟩), .int .i64 n] w fun e w' => e = .returned (.tuple #[]) ∧ St w0 w' (bits b (xs ++ [n]) :: rs) := by
  refine (add_calls b xs n w h.bitsAt).mono ?_
  rintro e w' ⟨rfl, hb, hg⟩
  exact ⟨rfl, h.turn hg hb (fun _ h => .inl h) (fun c hc => by cases hc; exact hb.lt)⟩

/-- A view that is drawn, told by resources. -/
theorem l91View_st {w0 w : World} {rs : List Res} (b m : Nat) (h : St w0 w (rd w0 b m :: rs)) (hm : m ≤ 900000) :
    Calls Try.prog 44 #[.pointer (some ⟨b, 0, none⟩)] w fun e w' => ∃ (num : Int) (g cap : Nat) (xs : List Int), e = .returned (.agg #[.int .i64 num, .slice (some ⟨g, 0, none⟩) xs.length cap]) ∧ -1 ≤ num ∧ num ≤ 1000 ∧ 1 ≤ xs.length ∧ xs.length ≤ 5 ∧ (∀ x ∈ xs, 0 ≤ x ∧ x ≤ 100) ∧
      St w0 w' (row (.slice (some ⟨g, 0, none⟩) xs.length cap) 3 1 xs.length (xs.map (Value.int .i64)) :: rd w0 b (m + 5) :: rs) := by
  obtain ⟨s, hr, hs⟩ := h.rdAt
  refine (l91View_calls b m w hr hm).mono ?_
  rintro e w' ⟨num, g, cap, xs, rfl, h1, h2, h3, h4, h5, h6, h7, h8⟩
  exact ⟨num, g, cap, xs, rfl, h1, h2, h3, h4, h5, h.turnFresh (r' := rd w0 b (m + 5)) h8 (hs _ _ h7) rfl h6 (Nat.le_refl _)⟩

/-- What DrawViewNext draws. -/
def DrawnNext (w : World) (e : Ending) (w' : World) : Prop :=
  ∃ (num : Int) (a a1 a2 : Option Addr) (cap cap1 cap2 : Nat) (xs failed fresh : List Int), e = .returned (.tuple #[.agg #[.int .i64 num, .slice a xs.length cap], .slice a1 failed.length cap1, .slice a2 fresh.length cap2]) ∧ -1 ≤ num ∧ num ≤ 1000 ∧
    1 ≤ xs.length ∧ xs.length ≤ 5 ∧ failed.length ≤ 5 ∧ fresh.length ≤ 2 ∧ IntsAt w' a xs ∧ IntsAt w' a1 failed ∧ IntsAt w' a2 fresh ∧ Below w.heap.size w w'

set_option maxHeartbeats 2000000 in
theorem drawViewNext_calls (a : Option Addr) (n cap : Nat) (w : World) (hc : n ≤ cap) (hm : cap ≤ maxLen) (hb : BytesAt w a n) :
    Calls Try.prog 36 #[.slice a n cap] w (DrawnNext w) := by
  have s0 := (St.start w).alloc (.cells #[.int .i64 0, .slice none 0 0] 25)
  go_enter Try.func36, Try.ntmps36
  go_wp2_with fail
  refine (l6Open_st a n cap s0 hc hm hb).mono ?_
  rintro e w1 ⟨b, rfl, s1⟩
  go_wp2_with fail
  refine (l91View_st b 0 s1 (by omega)).mono ?_
  rintro e w2 ⟨num, g, cap', xs, rfl, h1, h2, h3, h4, h5, s2⟩
  go_wp2_with fail
  have s3 := (((((s2.alloc (.cells #[.int .i64 num, .slice (some ⟨g, 0, none⟩) xs.length cap'] 25)).alloc (.cells #[] 3)).madeRow 1 0 rfl (by simp [maxLen]) 0 (Nat.le_refl _)).alloc (.cells #[] 3)).madeRow 1 0 rfl (by simp [maxLen]) 0 (Nat.le_refl _)).at1
  simp only [World.size_alloc, List.take_nil] at s3
  generalize ((w2.alloc (.cells #[.int .i64 num, .slice (some ⟨g, 0, none⟩) xs.length cap'] 25)).alloc (.cells #[] 3)).alloc (.cells #[] 3) = w3 at *
  generalize w2.heap.size = V at *
  clear s2 s1 s0
  go_loopw [7, 9] (fun v i wr => ∃ (k : Nat) (ys : List Int), k ≤ xs.length ∧ ys.length ≤ k ∧ i = .int .i64 k ∧ St w wr [row v 3 1 ys.length (ys.map (Value.int .i64)), row (.slice (some ⟨V + 1 + 1, 0, none⟩) 0 0) 3 1 0 [], box V #[.int .i64 num, .slice (some ⟨g, 0, none⟩) xs.length cap'] 25, row (.slice (some ⟨g, 0, none⟩) xs.length cap') 3 1 xs.length (xs.map (Value.int .i64)), rd w b (5 + k), box w.heap.size #[.int .i64 0, .slice none 0 0] 25]) (fun _ i _ => xs.length - (intOf i).toNat)
  case atStart => exact ⟨0, [], Nat.zero_le _, Nat.le_refl _, rfl, s3⟩
  case round =>
    clear s3
    obtain ⟨k, ys, hk, hy, rfl, s4⟩ := hrel
    obtain ⟨c1, _⟩ := s4.at2.cells
    by_cases hlt : k < xs.length
    · go_wp2_with fail
      refine (pick_st b (5 + k) 3 s4.at4 (by omega) (by omega)).mono ?_
      rintro e w5 ⟨q, rfl, q0, q1, s5⟩
      have s5 := s5.to4
      obtain ⟨c5, _⟩ := s5.at2.cells
      clear c1 s4
      by_cases hq : q = 0
      · subst hq
        have hc := s5.at3.own.cellAt k (by omega)
        simp only [List.getElem?_map, List.getElem?_eq_getElem hlt, Option.map_some] at hc
        have i1 : (0 : Int) ≤ (k : Int) := by omega
        have i2 : (k : Int) < (xs.length : Int) := by omega
        have o5 := s5.own
        have lR := s5.size
        go_wp2_with ((at_builtin; refine list_app elem_int (by rfl) _ _ (by rfl) w.heap.size u7 ys.length (ys.map (Value.int .i64)) (by rfl) w5.heap.size 1 1 (by rfl) #[.int .i64 xs[k]] 3 (0, 0) (by rfl) (by simp [Value.oneCell']) (by omega) (by omega) (by omega) (heap_alloc_new w5 _) (o5.alloc _) (by simp; omega) ?_); intro gg cap3 w7 hown hgrow hat hl)
        have s7 := s5.app (World.grownBy_alloc w5 _ none) hown hgrow hat hl
        clear hown hgrow hat hl hc c5 s5 o5
        go_wp2_with fail
        go_roundw
        case rel => exact ⟨k + 1, ys ++ [xs[k]], hlt, by simp; omega, by go_num, by rw [← Nat.add_assoc]; simpa using s7⟩
        case measure => simp [intOf]; omega
      · have hq' : (q == 0) = false := by simpa using hq
        clear hq
        go_wp2_with fail
        go_roundw
        case rel => exact ⟨k + 1, ys, hlt, by omega, by go_num, s5⟩
        case measure => simp [intOf]; omega
    · go_wp2_with fail
      have s5 := s4.at4
      refine (pick_st b (5 + k) 3 s5 (by omega) (by omega)).mono ?_
      rintro e w5 ⟨q, rfl, q0, q1, s6⟩
      have q2 := q1 (by omega)
      obtain ⟨N, rfl⟩ := Int.eq_ofNat_of_zero_le q0
      have hY : ys.length ≤ 5 := by omega
      have s6 := s6.to4.at1
      clear c1 s4 s5 q1
      go_wp2_with fail
      go_loopw [8, 11] (fun v i wr => ∃ (j : Nat) (zs : List Int), j ≤ N ∧ zs.length ≤ j ∧ i = .int .i64 j ∧ St w wr [row v 3 1 zs.length (zs.map (Value.int .i64)), row u7 3 1 ys.length (ys.map (Value.int .i64)), box V #[.int .i64 num, .slice (some ⟨g, 0, none⟩) xs.length cap'] 25, row (.slice (some ⟨g, 0, none⟩) xs.length cap') 3 1 xs.length (xs.map (Value.int .i64)), rd w b (20 + 2 * j), box w.heap.size #[.int .i64 0, .slice none 0 0] 25]) (fun _ i _ => N - (intOf i).toNat)
      case atStart => exact ⟨0, [], Nat.zero_le _, Nat.le_refl _, rfl, (s6.at4.rdMono (by omega)).to4⟩
      case round =>
        clear s6
        obtain ⟨j, zs, hj, hz, rfl, s7⟩ := hrel
        by_cases hlt2 : j < N
        · go_wp2_with fail
          refine (pick_st b (20 + 2 * j) 2 s7.at4 (by omega) (by omega)).mono ?_
          rintro e w6 ⟨p, rfl, p0, p1, s8⟩
          have p2 := p1 (by omega)
          have hm1 : 0 ≤ (j : Int) * p ∧ (j : Int) * p ≤ 2 := by rcases (show p = 0 ∨ p = 1 by omega) with rfl | rfl <;> omega
          obtain ⟨hm2, hm3⟩ := hm1
          clear s7
          go_wp2_with fail
          refine (pick_st b (20 + 2 * j + 1) 30 s8 (by omega) (by omega)).mono ?_
          rintro e w7 ⟨r, rfl, r0, r1, s9⟩
          have r2 := r1 (by omega)
          have s9 := s9.to4
          have o9 := s9.own
          have lR := s9.size
          clear s8
          go_wp2_with ((at_builtin; refine list_app elem_int (by rfl) _ _ (by rfl) w.heap.size u8 zs.length (zs.map (Value.int .i64)) (by rfl) w7.heap.size 1 1 (by rfl) #[.int .i64 (20 + (j : Int) * p + r / 29 * 80)] 3 (0, 0) (by rfl) (by simp [Value.oneCell']) (by omega) (by omega) (by omega) (heap_alloc_new w7 _) (o9.alloc _) (by simp; omega) ?_); intro gg cap3 w8 hown hgrow hat hl)
          have s10 := s9.app (World.grownBy_alloc w7 _ none) hown hgrow hat hl
          clear hown hgrow hat hl s9 o9
          go_wp2_with fail
          go_roundw
          case rel => exact ⟨j + 1, zs ++ [20 + (j : Int) * p + r / 29 * 80], hlt2, by simp; omega, by go_num, by rw [show 20 + 2 * (j + 1) = 20 + 2 * j + 1 + 1 by omega]; simpa using s10⟩
          case measure => simp [intOf]; omega
        · obtain ⟨c7, _⟩ := s7.at2.cells
          obtain ⟨d7, f7⟩ := s7.at5.cells
          have s8 := (s7.at5.set 0 (.int .i64 num)).set 1 (.slice (some ⟨g, 0, none⟩) xs.length cap')
          have FIN : Hid (DrawnNext w (.returned (.tuple #[.agg #[.int .i64 num, .slice (some ⟨g, 0, none⟩) xs.length cap'], u7, u8])) ((wr.setCell ⟨w.heap.size, 0, none⟩ (.int .i64 num)).setCell ⟨w.heap.size, 1, none⟩ (.slice (some ⟨g, 0, none⟩) xs.length cap'))) := by
            obtain ⟨a8, cap8, rfl, i8⟩ := s8.drop.ints
            obtain ⟨a7, cap7, rfl, i7⟩ := s8.drop.drop.ints
            exact ⟨num, _, a7, a8, cap', cap7, cap8, xs, ys, zs, rfl, h1, h2, h3, h4, hY, by omega, own_ints s8.drop.drop.drop.drop.own, i7, i8, s8.below⟩
          clear s7 s8
          go_wp2_with fail
          exact bodyPost_ret (v := .tuple #[.agg #[.int .i64 num, .slice (some ⟨g, 0, none⟩) xs.length cap'], u7, u8]) (by simp [results, Try.results36, go_sem, d7]) rfl FIN.out

end Go.Proofs.Ytkbckgnkbnakkaa
