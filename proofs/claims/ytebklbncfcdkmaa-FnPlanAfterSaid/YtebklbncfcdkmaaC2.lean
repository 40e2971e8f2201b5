
/-
  The walks of LogCommon, LogBegins, chainPlace, tailOf and the reference's l4Has. No statement is proved here.
-/
import Derived.Test.YtebklbncfcdkmaaC1
import Derived.Test.YtebklbncfcdkmaaP2
namespace Go.Proofs.Ytebklbncfcdkmaa
open Go.RowKit

/-- One log is the beginning of the other. -/
def preOk (us vs : List Upd) : Bool := decide (cpl us vs = us.length)
theorem preOk_iff {us vs : List Upd} : preOk us vs = true ↔ us <+: vs := by rw [preOk, decide_eq_true_eq, cpl_pre]

theorem map_getD {ns : List Nd} {j : Nat} (hj : j < ns.length) : (ns.map Nd.id).getD j 0 = (nd ns j).id := by simp [nd, hj]
/-- The place of a node, or -1. -/
def cplace (ns : List Nd) (x : Int) : Int := place (ns.map Nd.id) x
theorem cplace_at {ns : List Nd} {x : Int} (k : Nat) (hk : k < ns.length) (he : (nd ns k).id = x) (hn : ∀ j, j < k → (nd ns j).id ≠ x) : cplace ns x = k :=
  place_at _ _ k (by simpa using hk) (by rw [← he, nd_eq hk]; simp) fun j hj => by rw [map_getD (by omega)]; exact hn j hj
theorem cplace_none {ns : List Nd} {x : Int} (hn : ∀ j, j < ns.length → (nd ns j).id ≠ x) : cplace ns x = -1 :=
  place_none _ _ fun j hj => by rw [map_getD (by simpa using hj)]; exact hn j (by simpa using hj)

/-- A node as tailOf gives it. -/
def nodeV (n : Nd) : Value := .agg #[.int .i64 n.id, .slice n.a n.us.length n.cap, .int .i64 n.done]

end Go.Proofs.Ytebklbncfcdkmaa
