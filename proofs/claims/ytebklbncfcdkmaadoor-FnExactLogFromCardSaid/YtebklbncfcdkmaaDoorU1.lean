
/-
  Words: a slice of updates that lies in memory. No statement is proved here.
-/
import Derived.Test.YtebklbncfcdkmaaDoorR1
import Derived.Test.YtebklbncfcdkmaaDoorP4
namespace Go.Proofs.YtebklbncfcdkmaaDoor
open Go.RowKit

def ucells (us : List Upd) : List Value := us.flatMap fun u => [.int .i64 u.1, .int .i64 u.2]
theorem ucells_len (us : List Upd) : (ucells us).length = us.length * 2 := by
  induction us with
  | nil => rfl
  | cons u r ih =>
    have e : ucells (u :: r) = .int .i64 u.1 :: .int .i64 u.2 :: ucells r := rfl
    rw [e]
    simp only [List.length_cons, ih]
    omega
theorem ucells_at (us : List Upd) (j : Nat) (hj : j < us.length) : (ucells us)[j * 2]? = some (.int .i64 us[j].1) ∧ (ucells us)[j * 2 + 1]? = some (.int .i64 us[j].2) := by
  induction us generalizing j with
  | nil => simp at hj
  | cons u r ih =>
    have e : ucells (u :: r) = .int .i64 u.1 :: .int .i64 u.2 :: ucells r := rfl
    rw [e]
    cases j with
    | zero => exact ⟨rfl, rfl⟩
    | succ j =>
      have := ih j (by simpa using hj)
      rw [show (j + 1) * 2 = j * 2 + 1 + 1 by omega, show j * 2 + 1 + 1 + 1 = (j * 2 + 1) + 1 + 1 by omega]
      simpa using this
theorem ucells_append (us vs : List Upd) : ucells (us ++ vs) = ucells us ++ ucells vs := by simp [ucells]

/-- The updates us lie from a on. -/
def UpdsAt (w : World) (a : Option Addr) (us : List Upd) : Prop := CellsAt w a (ucells us)
theorem UpdsAt.below {w w' : World} {a : Option Addr} {us : List Upd} (h : UpdsAt w a us) (hb : Below w.heap.size w w') : UpdsAt w' a us := CellsAt.below h hb
theorem UpdsAt.drewN {w : World} {a : Option Addr} {us : List Upd} (h : UpdsAt w a us) (n : Nat) : UpdsAt (w.drewN n) a us := CellsAt.drewN h n
theorem UpdsAt.cells {w : World} {a : Option Addr} {us : List Upd} (h : UpdsAt w a us) (j : Nat) (hj : j < us.length) : ∃ b off, a = some ⟨b, off, none⟩ ∧ w.cell? ⟨b, off + j * 2, none⟩ = some (.int .i64 us[j].1) ∧ w.cell? ⟨b, off + j * 2 + 1, none⟩ = some (.int .i64 us[j].2) := by
  have hl := ucells_len us
  rcases h with h | ⟨b, off, rfl, hc⟩
  · rw [h] at hl; simp at hl; omega
  · obtain ⟨h1, h2⟩ := ucells_at us j hj
    refine ⟨b, off, rfl, ?_, ?_⟩
    · rw [hc (j * 2) (by omega), h1]
    · rw [Nat.add_assoc, hc (j * 2 + 1) (by omega), h2]

theorem elem_upd : Elem Tryd.prog 31 25 2 16 := by
  obtain ⟨i, hi, h0, h1, h2⟩ := info_parts (show (Tryd.prog.info? 25).map (fun i => (i.zero, i.size, i.bytes)) = some (some (.agg #[.int .i64 0, .int .i64 0]), 2, 16) by kernel_rfl)
  exact ⟨Tryd.underlying31, i, _, hi, h0, h1, h2, rfl, by omega⟩

/-- What a function that makes a slice of updates hands back. -/
def MadeUpds (w : World) (us : List Upd) (e : Ending) (w' : World) : Prop :=
  ∃ (a : Option Addr) (cap : Nat), e = .returned (.slice a us.length cap) ∧ w'.ownsRow w.heap.size 25 2 (.slice a us.length cap) us.length (ucells us) ∧ Below w.heap.size w w'
theorem madeUpds {w w' : World} {v : Value} {us vs : List Upd} (h : St w w' [row v 25 2 us.length (ucells us)]) (he : vs = us) : MadeUpds w vs (.returned v) w' := by
  subst he
  obtain ⟨a, cap, rfl, _⟩ := own_cells h.own
  exact ⟨a, cap, rfl, h.own, h.below⟩

def updIn (u : Upd) : Prop := -1 ≤ u.1 ∧ u.1 ≤ 5 ∧ -1 ≤ u.2 ∧ u.2 ≤ 100
/-- What l91Update draws. -/
def DrawnUpd (w0 : World) (b m : Nat) (rs : List Res) (e : Ending) (w' : World) : Prop :=
  ∃ k v : Int, e = .returned (.agg #[.int .i64 k, .int .i64 v]) ∧ updIn (k, v) ∧ St w0 w' (rd w0 b (m + 4) :: rs)

theorem drawnUpd_end {w0 w : World} {b m m' U R : Nat} {rs : List Res} {k v : Int} (h : St w0 w (box U #[.int .i64 k, .int .i64 v] 25 :: rd w0 b m' :: box R #[.int .i64 0, .int .i64 0] 25 :: rs)) (hm : m' ≤ m + 4) (hu : updIn (k, v)) :
    DrawnUpd w0 b m rs (.returned (.agg #[.int .i64 k, .int .i64 v])) ((w.setCell ⟨R, 0, none⟩ (.int .i64 k)).setCell ⟨R, 1, none⟩ (.int .i64 v)) :=
  ⟨k, v, rfl, hu, ((((h.drop.at1.set 0 _).set 1 _).drop).rdMono hm)⟩

set_option maxHeartbeats 2000000 in
theorem l91Update_st {w0 w : World} {rs : List Res} (b m : Nat) (h : St w0 w (rd w0 b m :: rs)) (hm : m ≤ 900000) :
    Calls Tryd.prog 56 #[.pointer (some ⟨b, 0, none⟩)] w (DrawnUpd w0 b m rs) := by
  have s0 := h.alloc (.cells #[.int .i64 0, .int .i64 0] 25)
  go_enter Tryd.func56, Tryd.ntmps56
  go_wp2_with fail
  refine (pick_st b m 3 s0.at1 (by omega) (by omega)).mono ?_
  rintro e w1 ⟨k, rfl, k0, k1, s1⟩
  go_wp2_with fail
  refine (pick_st b (m + 1) 100 s1 (by omega) (by omega)).mono ?_
  rintro e w2 ⟨v, rfl, v0, v1, s2⟩
  have lUR := s2.at1.lt.2
  go_wp2_with fail
  have s3 := s2.alloc (.cells #[.int .i64 k, .int .i64 v] 25)
  refine (pick_st b (m + 2) 50 s3.at1 (by omega) (by omega)).mono ?_
  rintro e w3 ⟨q, rfl, q0, q1, s4⟩
  have s4 := s4.at1
  have k2 := k1 (by omega)
  have v2 := v1 (by omega)
  clear h s0 s1 s2 s3 k1 v1 q1
  have lU := s4.lt.2
  have lR := s4.at2.lt.2
  by_cases h0 : q = 0
  · subst h0
    go_wp2_with fail
    refine (pick_st b (m + 3) 3 ((s4.alloc (.cells #[.int .i64 (-1), .int .i64 4, .int .i64 5] 3)).at2) (by omega) (by omega)).mono ?_
    rintro e w4 ⟨r, rfl, r0, r1, s5⟩
    have r2 := r1 (by omega)
    obtain ⟨c5, _⟩ := s5.at1.cells
    obtain ⟨d5, f5⟩ := s5.at2.cells
    obtain ⟨g5, z5⟩ := s5.at3.cells
    clear s4
    have FIN := Lib.hid (fun x (hx : -1 ≤ x ∧ x ≤ 5) => drawnUpd_end (((s5.at2.set 0 (.int .i64 x)).at2).drop) (Nat.le_refl (m + 4)) (k := x) (v := v) ⟨hx.1, hx.2, by omega, by omega⟩)
    rcases (show r = 0 ∨ r = 1 ∨ r = 2 by omega) with rfl | rfl | rfl
    all_goals
      go_wp2_with fail
    · exact bodyPost_ret (v := .agg #[.int .i64 (-1), .int .i64 v]) (by simp [results, Tryd.results56, go_sem, g5]) rfl (FIN.out (-1) (by omega))
    · exact bodyPost_ret (v := .agg #[.int .i64 4, .int .i64 v]) (by simp [results, Tryd.results56, go_sem, g5]) rfl (FIN.out 4 (by omega))
    · exact bodyPost_ret (v := .agg #[.int .i64 5, .int .i64 v]) (by simp [results, Tryd.results56, go_sem, g5]) rfl (FIN.out 5 (by omega))
  · have h0' : (q == 0) = false := by simpa using h0
    clear h0
    by_cases h1 : q = 1
    · subst h1
      go_wp2_with fail
      refine (pick_st b (m + 3) 3 ((s4.alloc (.cells #[.int .i64 (-1), .int .i64 99, .int .i64 100] 3)).at2) (by omega) (by omega)).mono ?_
      rintro e w4 ⟨r, rfl, r0, r1, s5⟩
      have r2 := r1 (by omega)
      obtain ⟨c5, _⟩ := s5.at1.cells
      obtain ⟨d5, f5⟩ := s5.at2.cells
      obtain ⟨g5, z5⟩ := s5.at3.cells
      clear s4
      have FIN := Lib.hid (fun x (hx : -1 ≤ x ∧ x ≤ 100) => drawnUpd_end (((s5.at2.set 1 (.int .i64 x)).at2).drop) (Nat.le_refl (m + 4)) (k := k) (v := x) ⟨by omega, by omega, hx.1, hx.2⟩)
      rcases (show r = 0 ∨ r = 1 ∨ r = 2 by omega) with rfl | rfl | rfl
      all_goals
        go_wp2_with fail
      · exact bodyPost_ret (v := .agg #[.int .i64 k, .int .i64 (-1)]) (by simp [results, Tryd.results56, go_sem, g5]) rfl (FIN.out (-1) (by omega))
      · exact bodyPost_ret (v := .agg #[.int .i64 k, .int .i64 99]) (by simp [results, Tryd.results56, go_sem, g5]) rfl (FIN.out 99 (by omega))
      · exact bodyPost_ret (v := .agg #[.int .i64 k, .int .i64 100]) (by simp [results, Tryd.results56, go_sem, g5]) rfl (FIN.out 100 (by omega))
    · have h1' : (q == 1) = false := by simpa using h1
      clear h1
      obtain ⟨d5, _⟩ := s4.cells
      obtain ⟨g5, z5⟩ := s4.at2.cells
      have FIN := Lib.hid (drawnUpd_end s4 (m := m) (by omega) ⟨by omega, by omega, by omega, by omega⟩)
      go_wp2_with fail
      exact bodyPost_ret (v := .agg #[.int .i64 k, .int .i64 v]) (by simp [results, Tryd.results56, go_sem, g5]) rfl FIN.out

end Go.Proofs.YtebklbncfcdkmaaDoor
