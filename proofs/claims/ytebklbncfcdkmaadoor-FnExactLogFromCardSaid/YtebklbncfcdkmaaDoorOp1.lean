
/-
  What a law is told of her arguments: an int, a slice of ints, a view, a slice of updates, opened from their readings. No statement is proved here.
-/
import Derived.Test.YtebklbncfcdkmaaDoorU1
import Derived.Lib.SmallJoins
import Derived.ChangeArms
import Derived.Deep.Slices
import Derived.Deep.Fields
namespace Go.Proofs.YtebklbncfcdkmaaDoor
open Go.RowKit Go.Joins Go.ChangeShapes Go.WideShapes Go.Deep

/-- An int that fits. -/
def fits (n : Int) : Prop := -9223372036854775808 ≤ n ∧ n ≤ 9223372036854775807
def IsIntV (v : Value) : Prop := ∃ n : Int, v = .int .i64 n ∧ fits n
def IsIntsV (w : World) (v : Value) : Prop := ∃ (a : Option Addr) (cap : Nat) (xs : List Int), v = .slice a xs.length cap ∧ xs.length ≤ cap ∧ cap ≤ maxLen ∧ IntsAt w a xs

section
variable {H : Type} {enc : TypeId × Value → H} {w : World} {base : Nat} {spare : Nat → Bool} {held : Bool}

set_option maxRecDepth 100000 in
theorem fits_of {n : Int} (h : (Lit.int .i64 n).wf = true) : fits n := by
  have := bounds_i64 h
  exact this
set_option maxRecDepth 100000 in
theorem trod_i64 {fuel : Nat} {v : Value} {y : DataW H × List MemPlace} (h : DataW.trod enc Tryd.prog w base spare held fuel 3 [v] = some y) : ∃ n, v = .int .i64 n ∧ fits n := by
  obtain ⟨n, e, _, hw⟩ := DataW.trod_int Tryd.underlying3 h
  simp at e
  exact ⟨n, e, fits_of hw⟩
set_option maxRecDepth 100000 in
/-- A slice, element by element: the cells of each, and that they read as an element. -/
theorem slice_elems {t e : TypeId} {fuel : Nat} {v : Value} {y : DataW H × List MemPlace} (ht : Tryd.prog.underlying t = some (.slice e)) (c : Nat) (hc : Tryd.prog.cellsOf e = c) (hc0 : 0 < c) (hsp : spare = fun _ => true) (h : DataW.trod enc Tryd.prog w base spare held fuel t [v] = some y) :
    ∃ (a : Option Addr) (len cap n : Nat), v = .slice a len cap ∧ len ≤ cap ∧ cap ≤ maxLen ∧ (len = 0 ∨ ∃ b off, a = some ⟨b, off, none⟩ ∧ ∀ i, i < len → ∃ (cs : List Value) (z : DataW H × List MemPlace), cs.length = c ∧ (∀ j, j < c → w.cell? ⟨b, off + i * c + j, none⟩ = cs[j]?) ∧ DataW.trod enc Tryd.prog w base spare held n e cs = some z) := by
  subst hc
  rcases open_slice ht h with ⟨hcs, _⟩ | ⟨a, len, cap, m, n, D, Pl, hcs, hb, hl, hm, hmm, _, hi⟩
  · simp at hcs
    exact ⟨none, 0, 0, 0, hcs, Nat.le_refl _, Nat.zero_le _, .inl rfl⟩
  · simp at hcs
    refine ⟨some a, len, cap, n, hcs, hl, hm, ?_⟩
    by_cases h0 : len = 0
    · exact .inl h0
    · right
      have hm' : len ≤ m := by rw [hmm, hsp]; exact hl
      obtain ⟨b, off, s⟩ := a
      have hs : s = none := by
        obtain ⟨cs', h1, _⟩ := hi 0 (by omega)
        obtain ⟨_, h2, h3⟩ := World.cells?_some h1
        have h4 := h3 0 hc0
        rw [List.getElem?_eq_getElem (by omega)] at h4
        simpa [Addr.add] using World.cell?_spot h4
      subst hs
      refine ⟨b, off, rfl, fun i hlt => ?_⟩
      obtain ⟨cs', h1, h5⟩ := hi i (by omega)
      obtain ⟨_, h2, h3⟩ := World.cells?_some h1
      refine ⟨cs', _, h2, fun j hj => ?_, h5⟩
      have e1 := h3 j hj
      rw [add_add] at e1
      have e : (⟨b, off, none⟩ : Addr).add (i * Tryd.prog.cellsOf e + j) = ⟨b, off + i * Tryd.prog.cellsOf e + j, none⟩ := by unfold Addr.add; split <;> simp_all [Nat.add_assoc]
      rw [e] at e1
      exact e1
set_option maxRecDepth 100000 in
theorem trod_ints {fuel : Nat} {v : Value} {y : DataW H × List MemPlace} (hsp : spare = fun _ => true) (h : DataW.trod enc Tryd.prog w base spare held fuel 96 [v] = some y) : IsIntsV w v := by
  obtain ⟨a, len, cap, n, rfl, hl, hm, h1⟩ := slice_elems Tryd.underlying96 1 (by kernel_rfl) (by omega) hsp h
  rcases h1 with rfl | ⟨b, off, rfl, h2⟩
  · exact ⟨a, cap, [], rfl, hl, hm, .inl rfl⟩
  · have h3 : ∀ i, i < len → ∃ x : Int, w.cell? ⟨b, off + i, none⟩ = some (.int .i64 x) := fun i hi => by
      obtain ⟨cs, z, hcs, hcell, ht⟩ := h2 i hi
      match cs, hcs with
      | [u], _ =>
        obtain ⟨x, rfl, _⟩ := trod_i64 ht
        exact ⟨x, by simpa using hcell 0 (by omega)⟩
    obtain ⟨f, hf⟩ := choose_lt h3
    refine ⟨_, cap, (List.range len).map f, by simp, by simpa using hl, hm, .inr ⟨b, off, rfl, fun j hj => ?_⟩⟩
    simp at hj
    rw [hf j hj]
    simp [List.getD, hj]
set_option maxRecDepth 100000 in
theorem open_intV {v : Value} {d : DataW H} {p : List MemPlace} (r : Reach) (b0 : Nat) (hv : Value.okWide Tryd.prog w r b0 3 v) (h : DataW.Trod enc Tryd.prog w base spare held 3 v d p) : IsIntV v := by
  obtain ⟨n, rfl, _, _, hw⟩ := open_int Tryd.underlying3 hv h
  exact ⟨n, rfl, fits_of hw⟩
set_option maxRecDepth 100000 in
theorem open_intsV {v : Value} {d : DataW H} {p : List MemPlace} (r : Reach) (b0 : Nat) (hsp : spare = fun _ => true) (hv : Value.okWide Tryd.prog w r b0 96 v) (h : DataW.Trod enc Tryd.prog w base spare held 96 v d p) : IsIntsV w v := by
  obtain ⟨a, len, cap, rfl⟩ := okWide_slice Tryd.underlying96 hv
  obtain ⟨fuel, hf⟩ := h
  exact trod_ints hsp (by simpa [Value.cells] using hf)
end

end Go.Proofs.YtebklbncfcdkmaaDoor
