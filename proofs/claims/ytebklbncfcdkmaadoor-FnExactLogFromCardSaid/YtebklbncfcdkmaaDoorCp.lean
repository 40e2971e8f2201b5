
/-
  The builtin copy of whole rows, whatever the size of an element. No statement is proved here.
-/
import Derived.Test.YtebklbncfcdkmaaDoorSt
import Derived.Test.YtebklbncfcdkmaaDoorP5
import Derived.Laws.IdiomCopy
namespace Go.Proofs.YtebklbncfcdkmaaDoor
open Go.RowKit

theorem setCells_heap (g : Nat) : ∀ (vs : List Value) (o : Nat) (w : World) (cur : List Value) (t : TypeId), w.heap[g]? = some (.cells cur.toArray t (0, 0)) → o + vs.length ≤ cur.length →
    (w.setCells g o vs).heap[g]? = some (.cells (cur.take o ++ (vs ++ cur.drop (o + vs.length))).toArray t (0, 0)) ∧ w.grownBy (w.setCells g o vs) (some g)
  | [], o, w, cur, t, h, _ => ⟨by simpa [World.setCells] using h, grown_refl _ _⟩
  | v :: r, o, w, cur, t, h, hl => by
    simp only [List.length_cons] at hl
    have h1 : (w.setCell ⟨g, o, none⟩ v).heap[g]? = some (.cells (cur.set o v).toArray t (0, 0)) := by
      rw [heap_set h v]; simp
    obtain ⟨h2, h3⟩ := setCells_heap g r (o + 1) _ _ t h1 (by simp; omega)
    refine ⟨?_, grown_trans (grown_put w ⟨g, o, none⟩ v) h3⟩
    rw [show w.setCells g o (v :: r) = (w.setCell ⟨g, o, none⟩ v).setCells g (o + 1) r from rfl, h2]
    have e : (cur.set o v).take (o + 1) ++ (r ++ (cur.set o v).drop (o + 1 + r.length)) = cur.take o ++ (v :: r ++ cur.drop (o + (v :: r).length)) := by
      rw [take_set_snoc _ _ _ (by omega), List.drop_set_of_lt (by omega), List.append_assoc]
      simp [Nat.add_assoc, Nat.add_comm 1]
    rw [e]

theorem St.boxTo {w0 w w' : World} {rs : List Res} {b : Nat} {cs cs' : Array Value} {t : TypeId} (h : St w0 w (box b cs t :: rs)) (hg : w.grownBy w' (some b)) (hh : w'.heap[b]? = some (.cells cs' t (0, 0))) : St w0 w' (box b cs' t :: rs) :=
  h.turn hg hh (fun _ h => .inl h) (fun c hc => by cases hc; exact lt_of_heap hh)
/-- A whole row is copied: all is read before anything is written. -/
theorem run_copyN {P : Program} (w : World) (dT sT ty elem : TypeId) (size g n dCap sCap : Nat) (sp : Option Addr) (cs : List Value) (cur : Array Value) (t : TypeId)
    (hu : P.underlying dT = some (.slice elem)) (hs : (P.info? elem).map (·.size) = some size) (hn : cs.length = n * size) (hsrc : CellsAt w sp cs)
    (hg : w.heap[g]? = some (.cells cur t (0, 0))) (hfit : cs.length ≤ cur.size) (h1 : ∀ v ∈ cs, v.oneCell' = true) :
    (Builtin.copy_ #[dT, sT] ty #[.slice (some ⟨g, 0, none⟩) n dCap, .slice sp n sCap]).run P w = .ok (goInt n) (w.setCells g 0 cs) := by
  have hc : ∀ j, j < cs.length → (w.cell? ⟨g, 0 + j, none⟩).isSome = true := fun j hj => by
    rw [Nat.zero_add, cell_of_heap hg, Array.getElem?_eq_getElem (by omega)]; rfl
  have hf : ∀ j, j < cs.length → w.frozen? ⟨g, 0 + j, none⟩ = false := fun j _ => frozen_of_heap hg
  have hst := run_storeCells_cells (P := P) g 0 cs 0 w (by simpa using hc) (by simpa using hf) h1
  cases hq : P.info? elem with
  | none => simp [hq] at hs
  | some i =>
    have hi : i.size = size := by simpa [hq] using hs
    cases sp with
    | none =>
      have h0 : cs = [] := by
        rcases hsrc with h | ⟨b, off, e, _⟩
        · exact h
        · cases e
      subst h0
      simp at hn
      simp [Builtin.copy_, run_underlying hu, Builtin.lenOf, Builtin.firstCells, sizeOf, typeInfo, hq, storeCells, World.setCells]
    | some ad =>
      have hl : (loadCells ad cs.length).run P w = .ok cs.toArray w := by
        refine run_loadCells_list (P := P) w ad cs fun j v hj => ?_
        have hlt : j < cs.length := (List.getElem?_eq_some_iff.1 hj).1
        rcases hsrc with h | ⟨b, off, e, hcell⟩
        · rw [h] at hlt; simp at hlt
        · cases e
          have e : (⟨b, off, none⟩ : Addr).add j = ⟨b, off + j, none⟩ := by unfold Addr.add; split <;> simp_all
          rw [e, hcell j hlt, hj]
      rw [hn] at hl
      simp [Builtin.copy_, run_underlying hu, Builtin.lenOf, Builtin.firstCells, sizeOf, typeInfo, hq, hi, hl, hst]

/-- .. at the operation. -/
theorem list_copy {P : Program} {w : World} {ops : Array Oper} {rest : List Oper} {o : Oper} {a : Act} {Q : Exit → Act → World → Prop} (hgd : o.guard = none) (d s : Operand) (dT sT : TypeId)
    (ho : o.op = .call { callee := .builtin .copy, args := #[d, s], argTypes := #[dT, sT] }) (elem : TypeId) (size : Nat) (hu : P.underlying dT = some (.slice elem)) (hsz : (P.info? elem).map (·.size) = some size)
    (g n dCap sCap : Nat) (sp : Option Addr) (hd : a.eval d = .slice (some ⟨g, 0, none⟩) n dCap) (hs : a.eval s = .slice sp n sCap) (cs : List Value) (cur : Array Value) (t : TypeId) (hn : cs.length = n * size) (hsrc : CellsAt w sp cs)
    (hg : w.heap[g]? = some (.cells cur t (0, 0))) (hfit : cs.length ≤ cur.size) (h1 : ∀ v ∈ cs, v.oneCell' = true)
    (h : ∀ w', w'.heap[g]? = some (.cells (cs ++ cur.toList.drop cs.length).toArray t (0, 0)) → w.grownBy w' (some g) → wpList P ops Q rest (a.put o.dst (goInt n)) w') : wpList P ops Q (o :: rest) a w := by
  refine wpList_plain hgd fun K hK => ?_
  have hrun := run_copyN (P := P) w dT sT o.type elem size g n dCap sCap sp cs cur t hu hsz hn hsrc hg hfit h1
  obtain ⟨k1, k2⟩ := setCells_heap g cs 0 w cur.toList t (by simpa using hg) (by simpa using hfit)
  unfold Oper.wp
  simp [execOp, ho, resolve, invoke, builtin, hd, hs, hrun, Result.andThen]
  exact hK _ _ (h _ (by simpa using k1) k2)

end Go.Proofs.YtebklbncfcdkmaaDoor
