
/-
  Plain facts on the texts of logs and chains. No program, no statement.
-/
import Derived.Test.YtebklbncfcdkmaaDoorY4
import Derived.Test.YtebklbncfcdkmaaDoorP7
namespace Go.Proofs.YtebklbncfcdkmaaDoor
open Go.RowKit

theorem joinT_one (u : Upd) (r : List Upd) : joinT (u :: r) 1 = updT u := by simp [joinT]
theorem joinT_cons (u : Upd) (r : List Upd) : ∀ k, 1 ≤ k → joinT (u :: r) (k + 1) = (updT u ++ [44]) ++ joinT r k
  | 0, h => by omega
  | 1, _ => by simp [joinT]
  | k + 2, _ => by
    have ih := joinT_cons u r (k + 1) (by omega)
    rw [joinT, ih]
    rw [joinT.eq_2 r (k + 1)]
    simp
theorem updT_ne (u : Upd) : updT u ≠ [] := by simp [updT]
theorem joinT_ne (us : List Upd) (k : Nat) (h : 0 < k) : joinT us k ≠ [] := by
  obtain ⟨k, rfl⟩ : ∃ n, k = n + 1 := ⟨k - 1, by omega⟩
  rw [joinT]
  intro e
  exact updT_ne _ (List.append_eq_nil_iff.1 e).2
theorem logT_ne (us : List Upd) : logT us ≠ [] := by
  unfold logT
  split
  · simp
  · exact joinT_ne us _ (by omega)
theorem logText_bad {us : List Upd} (h : logOk us = false) : logText us = [] := by simp [logText, h]
theorem logText_ok {us : List Upd} (h : logOk us = true) : logText us = logT us := by simp [logText, h]
/-- Updates are divided by commas. -/
theorem logText_join {us : List Upd} (h : logOk us = true) (h2 : 2 ≤ us.length) :
    logText (us.take 1) = updText (us.getD 0 (0, 0)) ∧ (logText (us.take 1) ++ [44]) ++ logText (us.drop 1) = logText us := by
  rw [logText_ok h, logText_ok (logOk_take h 1), logText_ok (logOk_drop h 1)]
  match us, h, h2 with
  | u :: v :: r, h, _ =>
    have hu : updOk u = true := (logOk_all h).2 0 (by simp)
    have e1 : logT ((u :: v :: r).take 1) = updT u := by
      unfold logT
      simp [joinT_one]
    have e2 : logT ((u :: v :: r).drop 1) = joinT (v :: r) (r.length + 1) := by simp [logT]
    rw [e1, e2]
    refine ⟨by simp [updText, hu], ?_⟩
    rw [← joinT_cons u (v :: r) (r.length + 1) (by omega)]
    simp [logT]
end Go.Proofs.YtebklbncfcdkmaaDoor
