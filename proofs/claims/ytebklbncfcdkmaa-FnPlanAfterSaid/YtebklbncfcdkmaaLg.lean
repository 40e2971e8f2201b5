
/-
  The walks of the functions that draw a log. No statement is proved here.
-/
import Derived.Test.YtebklbncfcdkmaaU1
namespace Go.Proofs.Ytebklbncfcdkmaa
open Go.RowKit

def updsIn (us : List Upd) : Prop := ∀ u ∈ us, updIn u
theorem updsIn_snoc {us : List Upd} {u : Upd} (h : updsIn us) (hu : updIn u) : updsIn (us ++ [u]) := fun x hx => by
  rcases List.mem_append.1 hx with h' | h'
  · exact h x h'
  · simp at h'; subst h'; exact hu

end Go.Proofs.Ytebklbncfcdkmaa
