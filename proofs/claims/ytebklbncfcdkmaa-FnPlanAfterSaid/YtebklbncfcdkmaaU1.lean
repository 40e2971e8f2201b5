
/-
  Words: a slice of updates that lies in memory. No statement is proved here.
-/
import Derived.Test.YtebklbncfcdkmaaR1
import Derived.Test.YtebklbncfcdkmaaP4
namespace Go.Proofs.Ytebklbncfcdkmaa
open Go.RowKit

def ucells (us : List Upd) : List Value := us.flatMap fun u => [.int .i64 u.1, .int .i64 u.2]
theorem ucells_len (us : List Upd) : (ucells us).length = us.length * 2 := by
  induction us with
  | nil => rfl
  | cons u r ih =>
    have e : ucells (u :: r) = .int .i64 u.1 :: .int .i64 u.2 :: ucells r := rfl
    rw [e]
    simp only [List.length_cons, ih]
    omega
theorem ucells_at (us : List Upd) (j : Nat) (hj : j < us.length) : (ucells us)[j * 2]? = some (.int .i64 us[j].1) ∧ (ucells us)[j * 2 + 1]? = some (.int .i64 us[j].2) := by
  induction us generalizing j with
  | nil => simp at hj
  | cons u r ih =>
    have e : ucells (u :: r) = .int .i64 u.1 :: .int .i64 u.2 :: ucells r := rfl
    rw [e]
    cases j with
    | zero => exact ⟨rfl, rfl⟩
    | succ j =>
      have := ih j (by simpa using hj)
      rw [show (j + 1) * 2 = j * 2 + 1 + 1 by omega, show j * 2 + 1 + 1 + 1 = (j * 2 + 1) + 1 + 1 by omega]
      simpa using this
theorem ucells_append (us vs : List Upd) : ucells (us ++ vs) = ucells us ++ ucells vs := by simp [ucells]

/-- The updates us lie from a on. -/
def UpdsAt (w : World) (a : Option Addr) (us : List Upd) : Prop := CellsAt w a (ucells us)
theorem UpdsAt.below {w w' : World} {a : Option Addr} {us : List Upd} (h : UpdsAt w a us) (hb : Below w.heap.size w w') : UpdsAt w' a us := CellsAt.below h hb
theorem UpdsAt.drewN {w : World} {a : Option Addr} {us : List Upd} (h : UpdsAt w a us) (n : Nat) : UpdsAt (w.drewN n) a us := CellsAt.drewN h n
theorem UpdsAt.cells {w : World} {a : Option Addr} {us : List Upd} (h : UpdsAt w a us) (j : Nat) (hj : j < us.length) : ∃ b off, a = some ⟨b, off, none⟩ ∧ w.cell? ⟨b, off + j * 2, none⟩ = some (.int .i64 us[j].1) ∧ w.cell? ⟨b, off + j * 2 + 1, none⟩ = some (.int .i64 us[j].2) := by
  have hl := ucells_len us
  rcases h with h | ⟨b, off, rfl, hc⟩
  · rw [h] at hl; simp at hl; omega
  · obtain ⟨h1, h2⟩ := ucells_at us j hj
    refine ⟨b, off, rfl, ?_, ?_⟩
    · rw [hc (j * 2) (by omega), h1]
    · rw [Nat.add_assoc, hc (j * 2 + 1) (by omega), h2]

def updIn (u : Upd) : Prop := -1 ≤ u.1 ∧ u.1 ≤ 5 ∧ -1 ≤ u.2 ∧ u.2 ≤ 100
/-- What l91Update draws. -/
def DrawnUpd (w0 : World) (b m : Nat) (rs : List Res) (e : Ending) (w' : World) : Prop :=
  ∃ k v : Int, e = .returned (.agg #[.int .i64 k, .int .i64 v]) ∧ updIn (k, v) ∧ St w0 w' (rd w0 b (m + 4) :: rs)

end Go.Proofs.Ytebklbncfcdkmaa
