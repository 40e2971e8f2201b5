
/-
  What is known of lost pieces, in plain lists. No statement is proved here.
-/
import Derived.Test.YtebklbncfcdkmaaX15
import Derived.Test.YtebklbncfcdkmaaX13
namespace Go.Proofs.Ytebklbncfcdkmaa

theorem gone_zero {xs ys : List Int} : (goneP xs ys).length = 0 ↔ ∀ x ∈ xs, x ∈ ys := by
  rw [List.length_eq_zero_iff]
  unfold goneP
  rw [List.filter_eq_nil_iff]
  simp
theorem lost_few {ps ss ds : List Int} {m : Int} (h : planOk ps ss ds m = true) (hd : (ds.length : Int) < m) : lostL ps ss ds m = [] := by
  unfold lostL
  rw [List.filter_eq_nil_iff]
  intro p hp hc
  have h0 := gone_zero.1 (by simpa using hc : (goneP (placeR p ss m) ds).length = 0)
  have h1 := List.Nodup.length_le_of_subset (placeR_nodup (p := p) (xs := ss) (m := m)) h0
  have h2 := placeR_length (plan_place h hp)
  omega
theorem lost_mem {ps ss ds : List Int} {m p : Int} (hp : p ∈ ps) : p ∈ lostL ps ss ds m ↔ ∀ x ∈ placeR p ss m, x ∈ ds := by
  unfold lostL
  rw [List.mem_filter, decide_eq_true_eq, gone_zero]
  exact ⟨fun h => h.2, fun h => ⟨hp, h⟩⟩

end Go.Proofs.Ytebklbncfcdkmaa
