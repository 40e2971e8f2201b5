/-
  The walks of l91Node and DrawBaseOf. No statement is proved here.
-/
import Derived.Test.YtgdbphgcpcihcaaD7
import Derived.Test.YtgdbphgcpcihcaaOc
import Derived.Test.YtgdbphgcpcihcaaFr
namespace Go.Proofs.Ytgdbphgcpcihcaa
open Go.RowKit

theorem lit3 (x y u : Int) (q : Int) (h0 : 0 ≤ q) (h1 : q < 3) : ∃ (k : Nat) (z : Int), q = (k : Int) ∧ k < 3 ∧ (z = x ∨ z = y ∨ z = u) ∧ (#[Value.int .i64 x, Value.int .i64 y, Value.int .i64 u] : Array Value)[k]? = some (.int .i64 z) := by
  rcases (show q = 0 ∨ q = 1 ∨ q = 2 by omega) with rfl | rfl | rfl
  · exact ⟨0, x, rfl, by omega, by simp, rfl⟩
  · exact ⟨1, y, rfl, by omega, by simp, rfl⟩
  · exact ⟨2, u, rfl, by omega, by simp, rfl⟩
theorem lit2b (x y : Int) (q : Int) (h0 : 0 ≤ q) (h1 : q < 2) : ∃ (k : Nat) (z : Int), q = (k : Int) ∧ k < 2 ∧ (z = x ∨ z = y) ∧ (#[Value.int .i64 x, Value.int .i64 y] : Array Value)[k]? = some (.int .i64 z) := by
  rcases (show q = 0 ∨ q = 1 by omega) with rfl | rfl
  · exact ⟨0, x, rfl, by omega, by simp, rfl⟩
  · exact ⟨1, y, rfl, by omega, by simp, rfl⟩

/-- What l91Node gives. -/
def NodeGiven (w0 : World) (rs : List Res) (b m : Nat) (e : Ending) (w' : World) : Prop :=
  ∃ (nid : Int) (v : Value) (us : List Upd) (done : Int), e = .returned (.agg #[.int .i64 nid, v, .int .i64 done]) ∧ us.length ≤ 13 ∧ updsIn us ∧ -1 ≤ done ∧ done ≤ 14 ∧ 0 ≤ nid ∧ nid ≤ 100 ∧ St w0 w' (row v 67 2 us.length (ucells us) :: rd w0 b (m + 105) :: rs)

set_option maxRecDepth 100000 in
set_option maxHeartbeats 4000000 in
theorem l91Node_st {w0 w : World} {rs : List Res} (b m : Nat) (h : St w0 w (rd w0 b m :: rs)) (hm : m ≤ 700000) :
    Calls Try.prog 41 #[.pointer (some ⟨b, 0, none⟩)] w (NodeGiven w0 rs b m) := by
  have s0 := (h.alloc (.cells #[.int .i64 0, .slice none 0 0, .int .i64 0] 25)).at1
  go_enter Try.func41, Try.ntmps41
  go_wp2_with fail
  refine (pick_st b m 9 s0 (by omega) (by omega)).mono ?_
  rintro e w1 ⟨p, rfl, p0, p1, s1⟩
  have p2 := p1 (by omega)
  clear s0 p1 h
  go_wp2_with fail
  refine (l91Log_st b (m + 1) s1 (by omega)).mono ?_
  rintro e w2 ⟨v, us, rfl, hl, hui, s2⟩
  obtain ⟨a2, cap2, rfl, _⟩ := own_cells s2.own
  have s3 := s2.alloc (.cells #[.int .i64 (1 + p), .slice a2 us.length cap2, .int .i64 0] 25)
  have HUI := Lib.hid hui
  clear s1 hui
  go_wp2_with fail
  generalize w2.alloc (.cells #[.int .i64 (1 + p), .slice a2 us.length cap2, .int .i64 0] 25) = w3 at *
  generalize w2.heap.size = V at *
  clear s2
  refine (pick_st b (m + 1 + 100) ((us.length : Int) + 1) s3.at2 (by omega) (by omega)).mono ?_
  rintro e w4 ⟨d, rfl, d0, d1, s4⟩
  have d2 := d1 (by omega)
  have s4 := s4.to2
  obtain ⟨c4, f4⟩ := s4.cells
  have s5 := s4.set 2 (.int .i64 d)
  clear s3 d1
  go_wp2_with fail
  refine (pick_st b (m + 1 + 100 + 1) 40 s5.at2 (by omega) (by omega)).mono ?_
  rintro e w5 ⟨t, rfl, t0, t1, s6⟩
  have s6 := s6.to2
  clear s4 s5 c4 f4 t1
  by_cases ht0 : t = 0
  · subst ht0
    obtain ⟨c6, f6⟩ := s6.cells
    have s7 := s6.alloc (.cells #[.int .i64 0, .int .i64 99, .int .i64 100] 3)
    go_wp2_with fail
    refine (pick_st b (m + 1 + 100 + 1 + 1) 3 s7.at3 (by omega) (by omega)).mono ?_
    rintro e w6 ⟨q, rfl, q0, q1, s8⟩
    have q2 := q1 (by omega)
    have s8 := s8.to3
    obtain ⟨j, z, rfl, hj, hzz, hz⟩ := lit3 0 99 100 q q0 q2
    obtain ⟨l8, _⟩ := s8.cells
    have cz : w6.cell? ⟨w5.heap.size, j, none⟩ = some (.int .i64 z) := by rw [l8 j, hz]
    have s8 := s8.drop
    obtain ⟨c8, f8⟩ := s8.cells
    have s9 := s8.set 0 (.int .i64 z)
    obtain ⟨d9, f9⟩ := s9.at3.cells
    obtain ⟨c9, g9⟩ := s9.cells
    have s10 := ((s9.at3.set 0 (.int .i64 z)).set 1 (.slice a2 us.length cap2)).set 2 (.int .i64 d)
    have q10 := s10.cells.1
    have FIN := Lib.hid ((s10.drop.drop.at1.rdMono (m' := m + 105) (by omega)).at1)
    clear s6 s7 s8 q1 hz l8 c6 f6 s10 s9
    go_wp2_with fail
    exact bodyPost_ret (v := .agg #[.int .i64 z, .slice a2 us.length cap2, .int .i64 d]) (by simp [results, Try.results41, go_sem, q10]) rfl ⟨z, _, us, d, rfl, hl, HUI.out, by omega, by omega, by omega, by omega, FIN.out⟩
  · have ht0' : (t == 0) = false := by simpa using ht0
    by_cases ht1 : t = 1
    · subst ht1
      obtain ⟨c6, f6⟩ := s6.cells
      go_wp2_with fail
      have iw : IntKind.i64.wrap ((us.length : Int) + 1) = (us.length : Int) + 1 := by rw [IntKind.wrap_i64]; omega
      have VL := s6.lt.2
      have BL := (s6.at2.2.1 b rfl).2
      have KC : Hid (∀ (n : Nat) w', ((n = 0 → St w0 w' (box V ((#[.int .i64 (1 + p), .slice a2 us.length cap2, .int .i64 0] : Array Value).setIfInBounds 2 (.int .i64 d)) 25 :: row (.slice a2 us.length cap2) 67 2 us.length (ucells us) :: rd w0 b (m + 1 + 100 + 1 + 1 + 0) :: boxo w.heap.size (.cells #[.int .i64 0, .slice none 0 0, .int .i64 0] 25 (0, 0)) :: rs)) ∧ (n = 1 → St w0 w' (box V ((#[.int .i64 (1 + p), .slice a2 us.length cap2, .int .i64 0] : Array Value).setIfInBounds 2 (.int .i64 d)) 25 :: row (.slice a2 us.length cap2) 67 2 us.length (ucells us) :: rd w0 b (m + 1 + 100 + 1 + 1 + 1) :: boxo w.heap.size (.cells #[.int .i64 0, .slice none 0 0, .int .i64 0] 25 (0, 0)) :: rs)) ∧ (n = 2 → ∃ z : Int, (z = -1 ∨ z = (us.length : Int) + 1) ∧ St w0 w' (box V ((#[.int .i64 (1 + p), .slice a2 us.length cap2, .int .i64 0] : Array Value).setIfInBounds 2 (.int .i64 z)) 25 :: row (.slice a2 us.length cap2) 67 2 us.length (ucells us) :: rd w0 b (m + 1 + 100 + 1 + 1 + 1) :: boxo w.heap.size (.cells #[.int .i64 0, .slice none 0 0, .int .i64 0] 25 (0, 0)) :: rs))) → n ≤ 1 → w'.cell? ⟨V, 1, none⟩ = some (.slice a2 us.length cap2)) := Lib.hid fun n w' hI hn => by
        rcases (show n = 0 ∨ n = 1 by omega) with rfl | rfl
        · simpa using (hI.1 rfl).cells.1 1
        · simpa using (hI.2.1 rfl).cells.1 1
      refine Free.wp_region_puts [6, 10]
        (fun n _ w' => w5.heap.size ≤ w'.heap.size ∧ (n = 0 → St w0 w' (box V ((#[.int .i64 (1 + p), .slice a2 us.length cap2, .int .i64 0] : Array Value).setIfInBounds 2 (.int .i64 d)) 25 :: row (.slice a2 us.length cap2) 67 2 us.length (ucells us) :: rd w0 b (m + 1 + 100 + 1 + 1 + 0) :: boxo w.heap.size (.cells #[.int .i64 0, .slice none 0 0, .int .i64 0] 25 (0, 0)) :: rs)) ∧ (n = 1 → St w0 w' (box V ((#[.int .i64 (1 + p), .slice a2 us.length cap2, .int .i64 0] : Array Value).setIfInBounds 2 (.int .i64 d)) 25 :: row (.slice a2 us.length cap2) 67 2 us.length (ucells us) :: rd w0 b (m + 1 + 100 + 1 + 1 + 1) :: boxo w.heap.size (.cells #[.int .i64 0, .slice none 0 0, .int .i64 0] 25 (0, 0)) :: rs)) ∧ (n = 2 → ∃ z : Int, (z = -1 ∨ z = (us.length : Int) + 1) ∧ St w0 w' (box V ((#[.int .i64 (1 + p), .slice a2 us.length cap2, .int .i64 0] : Array Value).setIfInBounds 2 (.int .i64 z)) 25 :: row (.slice a2 us.length cap2) 67 2 us.length (ucells us) :: rd w0 b (m + 1 + 100 + 1 + 1 + 1) :: boxo w.heap.size (.cells #[.int .i64 0, .slice none 0 0, .int .i64 0] 25 (0, 0)) :: rs)))
        (fun i w1 w2 => w1.grownBy w2 (some (if i = 10 then V else b)))
        (fun j _ v w' => match j with
          | 0 => v = .pointer (some ⟨V, 1, none⟩)
          | 1 => v = .slice a2 us.length cap2
          | 2 => v = .int .i64 us.length
          | 3 => v = .int .i64 ((us.length : Int) + 1)
          | 4 => ∃ x, v = .slice (some ⟨x, 0, none⟩) 2 2 ∧ w5.heap.size ≤ x ∧ w'.heap[x]? = some (.cells #[.int .i64 (-1), .int .i64 ((us.length : Int) + 1)] 3 (0, 0))
          | 5 => v = .pointer (some ⟨b, 0, none⟩)
          | 6 => ∃ q : Nat, v = .int .i64 q ∧ q < 2
          | 7 => ∃ x q, v = .pointer (some ⟨x, q, none⟩) ∧ w5.heap.size ≤ x ∧ w'.heap[x]? = some (.cells #[.int .i64 (-1), .int .i64 ((us.length : Int) + 1)] 3 (0, 0)) ∧ q < 2
          | 8 => ∃ z : Int, v = .int .i64 z ∧ (z = -1 ∨ z = (us.length : Int) + 1)
          | 9 => v = .pointer (some ⟨V, 2, none⟩)
          | _ => True)
        (by kernel_rfl) (by kernel_rfl) (by kernel_rfl) ?_ ?_ ?_ ?_
      · intro i j n n' u w1 w2 _ _ _ hR
        have hkeep : ∀ x o, w5.heap.size ≤ x → w1.heap[x]? = some o → w2.heap[x]? = some o := fun x o hx ho => heap_kept ho hR (by split <;> simp <;> omega)
        match j with
        | 0 | 1 | 2 | 3 | 5 | 6 | 8 | 9 | 10 => exact id
        | 4 => rintro ⟨x, h1, h2, h3⟩; exact ⟨x, h1, h2, hkeep _ _ h2 h3⟩
        | 7 => rintro ⟨x, q, h1, h2, h3, h4⟩; exact ⟨x, q, h1, h2, hkeep _ _ h2 h3, h4⟩
        | n + 11 => exact id
      · exact ⟨Nat.le_refl _, fun _ => s6.drew, by omega, by omega⟩
      · refine ⟨?_, ?_, ?_, ?_, ?_, ?_, ?_, ?_, ?_, ?_, ?_⟩
        · intro n n1 n2 a0 w' hI hk K hK
          have h3 := Free.slot (v := .pointer (some ⟨V, 0, none⟩)) (hk 3)
          refine Free.plain rfl ?_
          go_simp
          exact hK _ _ rfl hI (grown_refl _ _)
        · intro n n1 n2 a0 w' hI hk K hK
          have h29 := Free.slot (v := .pointer (some ⟨V, 1, none⟩)) (hk 29)
          have hc : w'.cell? ⟨V, 1, none⟩ = some (.slice a2 us.length cap2) := KC.out n w' hI.2 (Nat.le_trans n2 (by decide))
          refine Free.plain rfl ?_
          go_simp
          exact hK _ _ rfl hI (grown_refl _ _)
        · intro n n1 n2 a0 w' hI hk K hK
          have h30 := Free.slot (v := .slice a2 us.length cap2) (hk 30)
          refine Free.plain rfl ?_
          go_simp
          exact hK _ _ rfl hI (grown_refl _ _)
        · intro n n1 n2 a0 w' hI hk K hK
          have h31 := Free.slot (v := .int .i64 us.length) (hk 31)
          refine Free.plain rfl ?_
          go_simp
          exact hK _ _ rfl hI (grown_refl _ _)
        · intro n n1 n2 a0 w' hI hk K hK
          have h32 := Free.slot (v := .int .i64 ((us.length : Int) + 1)) (hk 32)
          have n3 : n ≤ 1 := Nat.le_trans n2 (by decide)
          refine Free.plain rfl ?_
          go_simp
          refine hK _ _ ⟨_, rfl, hI.1, heap_alloc_new _ _⟩ ⟨Nat.le_trans hI.1 (by simp), fun e => ((hI.2.1 e).alloc _).drop, fun e => ((hI.2.2.1 e).alloc _).drop, by omega⟩ (World.grownBy_alloc _ _ _)
        · intro n n1 n2 a0 w' hI hk K hK
          have h0 := Free.slot (v := .pointer (some ⟨b, 0, none⟩)) (hk 0)
          refine Free.plain rfl ?_
          go_simp
          exact hK _ _ rfl hI (grown_refl _ _)
        · intro a0 w' hI hk K hK
          have h34 := Free.slot (v := .pointer (some ⟨b, 0, none⟩)) (hk 34)
          refine Free.plain rfl ?_
          go_simp
          obtain ⟨sl, hR, hRd⟩ := ((hI.2.1 rfl).at2).rdAt
          refine (pick_calls b (m + 1 + 100 + 1 + 1) 2 _ hR (by omega) (by omega)).mono ?_
          rintro e w7 ⟨q, rfl, hq0, hq1, hR7, hg7⟩
          have hq2 := hq1 (by omega)
          have S7 := ((hI.2.1 rfl).at2.turn (r' := rd w0 b (m + 1 + 100 + 1 + 1 + 1)) hg7 (hRd _ _ hR7) (fun b hb => .inl hb) (fun b' hb' => Nat.lt_of_lt_of_le ((hI.2.1 rfl).at2.2.1 b' hb').2 hg7.size)).to2
          exact hK _ _ ⟨q.toNat, by rw [Int.toNat_of_nonneg hq0], by omega⟩ ⟨Nat.le_trans hI.1 hg7.size, by omega, fun _ => S7, by omega⟩ hg7
        · intro n n1 n2 a0 w' hI hk K hK
          obtain ⟨x, h33', hx1, hx2⟩ := hk 33
          have h33 := Free.slot h33'
          obtain ⟨q, h35', hq⟩ := hk 35
          have h35 := Free.slot h35'
          have hq' : (q : Int) < 2 := by omega
          refine Free.plain rfl ?_
          go_simp
          exact hK _ _ ⟨x, q, rfl, hx1, hx2, hq⟩ hI (grown_refl _ _)
        · intro n n1 n2 a0 w' hI hk K hK
          obtain ⟨x, q, h36', hx1, hx2, hq⟩ := hk 36
          have h36 := Free.slot h36'
          obtain ⟨z, hz, hz1⟩ : ∃ z : Int, w'.cell? ⟨x, q, none⟩ = some (.int .i64 z) ∧ (z = -1 ∨ z = (us.length : Int) + 1) := by
            rw [cell_of_heap hx2]
            match q, hq with
            | 0, _ => exact ⟨-1, rfl, by omega⟩
            | 1, _ => exact ⟨(us.length : Int) + 1, rfl, by omega⟩
          refine Free.plain rfl ?_
          go_simp
          exact hK _ _ ⟨z, rfl, hz1⟩ hI (grown_refl _ _)
        · intro n n1 n2 a0 w' hI hk K hK
          have h3 := Free.slot (v := .pointer (some ⟨V, 0, none⟩)) (hk 3)
          refine Free.plain rfl ?_
          go_simp
          exact hK _ _ rfl hI (grown_refl _ _)
        · intro a0 w' hI hk K hK
          have h38 := Free.slot (v := .pointer (some ⟨V, 2, none⟩)) (hk 38)
          obtain ⟨z, h37', hz⟩ := hk 37
          have h37 := Free.slot h37'
          have S1 := hI.2.2.1 rfl
          have hc := S1.cells.1 2
          have hf := S1.cells.2 2
          simp at hc
          refine Free.plain rfl ?_
          go_simp
          have S2 := S1.set 2 (.int .i64 z)
          refine hK undef _ trivial ⟨by simpa using hI.1, by omega, by omega, fun _ => ⟨z, hz, by simpa using S2⟩⟩ (by simpa using grown_put w' ⟨V, 2, none⟩ (.int .i64 z))
      · intro vs w6 hI _ hv
        obtain ⟨z, hz, s9⟩ := hI.2.2.2 rfl
        have hz1 : -1 ≤ z ∧ z ≤ 14 := by omega
        obtain ⟨hz2, hz3⟩ := hz1
        simp only [Free.puts]
        clear hv hI KC
        obtain ⟨d9, f9⟩ := s9.at3.cells
        obtain ⟨c9, g9⟩ := s9.cells
        have s10 := ((s9.at3.set 0 (.int .i64 (1 + p))).set 1 (.slice a2 us.length cap2)).set 2 (.int .i64 z)
        have q10 := s10.cells.1
        have FIN := Lib.hid ((s10.drop.drop.at1.rdMono (m' := m + 105) (by omega)).at1)
        clear c6 f6 s6 s10 s9
        go_wp2_with fail
        exact bodyPost_ret (v := .agg #[.int .i64 (1 + p), .slice a2 us.length cap2, .int .i64 z]) (by simp [results, Try.results41, go_sem, q10]) rfl ⟨(1 + p), _, us, z, rfl, hl, HUI.out, by omega, by omega, by omega, by omega, FIN.out⟩
    · have ht1' : (t == 1) = false := by simpa using ht1
      obtain ⟨d9, f9⟩ := s6.at3.cells
      obtain ⟨c9, g9⟩ := s6.cells
      have s10 := ((s6.at3.set 0 (.int .i64 (1 + p))).set 1 (.slice a2 us.length cap2)).set 2 (.int .i64 d)
      have q10 := s10.cells.1
      have FIN := Lib.hid ((s10.drop.drop.at1.rdMono (m' := m + 105) (by omega)).at1)
      clear ht0 ht1 s10 s6
      go_wp2_with fail
      exact bodyPost_ret (v := .agg #[.int .i64 (1 + p), .slice a2 us.length cap2, .int .i64 d]) (by simp [results, Try.results41, go_sem, q10]) rfl ⟨(1 + p), _, us, d, rfl, hl, HUI.out, by omega, by omega, by omega, by omega, FIN.out⟩

/-- What DrawBaseOf draws. -/
def DrawnNode (w : World) (e : Ending) (w' : World) : Prop :=
  ∃ (nid : Int) (a : Option Addr) (cap : Nat) (us : List Upd) (done : Int), e = .returned (.agg #[.int .i64 nid, .slice a us.length cap, .int .i64 done]) ∧ us.length ≤ 13 ∧ us.length ≤ cap ∧ updsIn us ∧ -1 ≤ done ∧ done ≤ 14 ∧ 0 ≤ nid ∧ nid ≤ 100 ∧ UpdsAt w' a us ∧ Below w.heap.size w w'

set_option maxHeartbeats 1000000 in
theorem drawBaseOf_calls (a : Option Addr) (n cap : Nat) (w : World) (hc : n ≤ cap) (hm : cap ≤ maxLen) (hb : BytesAt w a n) :
    Calls Try.prog 11 #[.slice a n cap] w (DrawnNode w) := by
  have s0 := (St.start w).alloc (.cells #[.int .i64 0, .slice none 0 0, .int .i64 0] 25)
  go_enter Try.func11, Try.ntmps11
  go_wp2_with fail
  refine (l6Open_st a n cap s0 hc hm hb).mono ?_
  rintro e w1 ⟨b, rfl, s1⟩
  go_wp2_with fail
  refine (l91Node_st b 0 s1 (by omega)).mono ?_
  rintro e w2 ⟨nid, v, us, done, rfl, h1, h2, h3, h4, h5, h6, s2⟩
  obtain ⟨a', cap', rfl, hu⟩ := own_cells s2.own
  obtain ⟨c2, f2⟩ := s2.at2.cells
  have s3 := ((s2.at2.set 0 (.int .i64 nid)).set 1 (.slice a' us.length cap')).set 2 (.int .i64 done)
  have q3 := s3.cells.1
  have FIN : Hid _ := Lib.hid (show us.length ≤ cap' ∧ UpdsAt _ a' us ∧ Below w.heap.size w _ from ⟨own_cap s3.drop.own, own_cellsR s3.drop.own, s3.below⟩)
  have H := Lib.hid (show us.length ≤ 13 ∧ updsIn us ∧ -1 ≤ done ∧ done ≤ 14 ∧ 0 ≤ nid ∧ nid ≤ 100 from ⟨h1, h2, h3, h4, h5, h6⟩)
  clear s0 s1 s2 s3 hu h1 h2 h3 h4 h5 h6
  go_wp2_with fail
  exact bodyPost_ret (v := .agg #[.int .i64 nid, .slice a' us.length cap', .int .i64 done]) (by simp [results, Try.results11, go_sem, q3]) rfl ⟨nid, a', cap', us, done, rfl, H.out.1, FIN.out.1, H.out.2.1, H.out.2.2.1, H.out.2.2.2.1, H.out.2.2.2.2.1, H.out.2.2.2.2.2, FIN.out.2.1, FIN.out.2.2⟩

end Go.Proofs.Ytgdbphgcpcihcaa
