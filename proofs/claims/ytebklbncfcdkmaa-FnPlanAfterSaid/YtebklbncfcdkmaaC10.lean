
/-
  The walk of the function that draws a chain. No statement is proved here.
-/
import Derived.Test.YtebklbncfcdkmaaC6
import Derived.Test.YtebklbncfcdkmaaAp
import Derived.Test.YtebklbncfcdkmaaLg
import Derived.Deep.DeepCutAuto
namespace Go.Proofs.Ytebklbncfcdkmaa
open Go.RowKit

theorem St.perm {w0 w : World} : ∀ {rs rs' : List Res}, rs.Perm rs' → St w0 w rs → St w0 w rs' := by
  intro rs rs' h
  induction h with
  | nil => exact id
  | cons x hp ih => exact fun hs => hs.under ih (fun z hz => hp.mem_iff.2 hz)
  | swap x y l => exact fun hs => hs.at1
  | trans h1 h2 ih1 ih2 => exact fun hs => ih2 (ih1 hs)
theorem St.pull {w0 w : World} {rs : List Res} {r : Res} (h : St w0 w rs) (hr : r ∈ rs) : St w0 w [r] := by
  obtain ⟨a, b, rfl⟩ := List.append_of_mem hr
  exact (h.perm List.perm_middle).only
theorem ucells_take (us : List Upd) (k : Nat) : (ucells us).take (k * 2) = ucells (us.take k) := by
  induction us generalizing k with
  | nil => simp [ucells]
  | cons u r ih =>
    have e : ucells (u :: r) = .int .i64 u.1 :: .int .i64 u.2 :: ucells r := rfl
    cases k with
    | zero => simp [ucells]
    | succ k =>
      rw [e, show (k + 1) * 2 = k * 2 + 1 + 1 by omega, List.take_succ_cons, List.take_succ_cons, ih, List.take_succ_cons]
      rfl

theorem ncells_done : ∀ (ns : List Nd) (i : Nat) (d : Int), i < ns.length → (ncells ns).set (i * 3 + 2) (.int .i64 d) = ncells (ns.set i { nd ns i with done := d })
  | [], _, _, h => by simp at h
  | n :: r, 0, d, _ => by simp [ncells_cons, nd]
  | n :: r, i + 1, d, h => by
    have := ncells_done r i d (by simpa using h)
    have e : nd (n :: r) (i + 1) = nd r i := by simp [nd]
    rw [ncells_cons, show (i + 1) * 3 + 2 = (i * 3 + 2) + 1 + 1 + 1 by omega, List.set_cons_succ, List.set_cons_succ, List.set_cons_succ, this, e, List.set_cons_succ, ncells_cons]
theorem ncells_id : ∀ (ns : List Nd) (i : Nat) (d : Int), i < ns.length → (ncells ns).set (i * 3) (.int .i64 d) = ncells (ns.set i { nd ns i with id := d })
  | [], _, _, h => by simp at h
  | n :: r, 0, d, _ => by simp [ncells_cons, nd]
  | n :: r, i + 1, d, h => by
    have := ncells_id r i d (by simpa using h)
    have e : nd (n :: r) (i + 1) = nd r i := by simp [nd]
    rw [ncells_cons, show (i + 1) * 3 = (i * 3) + 1 + 1 + 1 by omega, List.set_cons_succ, List.set_cons_succ, List.set_cons_succ, this, e, List.set_cons_succ, ncells_cons]
theorem short_set {ns : List Nd} {i : Nat} {n : Nd} {m : Nat} (h : Short ns m) (hn : n.us.length ≤ m) : Short (ns.set i n) m := fun x hx => by
  rcases List.mem_or_eq_of_mem_set hx with hx | rfl
  · exact h x hx
  · exact hn
theorem chain_perm (x y r a b : Res) (A X : List Res) : (x :: y :: r :: a :: b :: (A ++ X)).Perm (x :: y :: a :: b :: ((A ++ [r]) ++ X)) := by
  refine List.Perm.cons _ (List.Perm.cons _ ?_)
  rw [List.append_assoc]
  refine (List.Perm.swap a r _).trans (List.Perm.cons _ ((List.Perm.swap b r _).trans (List.Perm.cons _ ?_)))
  exact List.perm_middle.symm

theorem lit3 (x y u : Int) (q : Int) (h0 : 0 ≤ q) (h1 : q < 3) : ∃ (k : Nat) (z : Int), q = (k : Int) ∧ k < 3 ∧ (z = x ∨ z = y ∨ z = u) ∧ (#[Value.int .i64 x, Value.int .i64 y, Value.int .i64 u] : Array Value)[k]? = some (.int .i64 z) := by
  rcases (show q = 0 ∨ q = 1 ∨ q = 2 by omega) with rfl | rfl | rfl
  · exact ⟨0, x, rfl, by omega, by simp, rfl⟩
  · exact ⟨1, y, rfl, by omega, by simp, rfl⟩
  · exact ⟨2, u, rfl, by omega, by simp, rfl⟩
end Go.Proofs.Ytebklbncfcdkmaa
