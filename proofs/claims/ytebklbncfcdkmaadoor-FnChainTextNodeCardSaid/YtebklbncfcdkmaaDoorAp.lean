
/-
  append of the elements of any slice, none at all among them, to a row of the call's own. No statement is proved here.
-/
import Derived.Test.YtebklbncfcdkmaaDoorSt
import Derived.Laws.OwnMore
namespace Go.Proofs.YtebklbncfcdkmaaDoor
open Go.RowKit

section
variable {P : Program} {w : World} {o : Oper} {a : Act}
theorem run_append_zero (base : Nat) (t ty e : TypeId) (i : TypeInfo) (size : Nat) (ht : P.underlying t = some (.slice e)) (hi : P.info? e = some i)
    (v : Value) (n : Nat) (xs : List Value) (hown : w.ownsRow base e size v n xs) (ad : Option Addr) (c : Nat) :
    (Builtin.append_ #[t, t] ty #[v, .slice ad 0 c]).run P w = .ok v w := by
  cases ad with
  | none =>
    rcases hown.2 with ⟨rfl, rfl⟩ | ⟨g, cap, cur, rfl, _, _, hnc, _⟩
    · simp [Builtin.append_, run_underlying ht, sizeOf, typeInfo, hi, Builtin.lenOf, Builtin.firstCells]
    · simp [Builtin.append_, run_underlying ht, sizeOf, typeInfo, hi, Builtin.lenOf, Builtin.firstCells, hnc, storeCells]
  | some x =>
    rcases hown.2 with ⟨rfl, rfl⟩ | ⟨g, cap, cur, rfl, _, _, hnc, _⟩
    · simp [Builtin.append_, run_underlying ht, sizeOf, typeInfo, hi, Builtin.lenOf, Builtin.firstCells, loadCells, loadCellsFrom]
    · simp [Builtin.append_, run_underlying ht, sizeOf, typeInfo, hi, Builtin.lenOf, Builtin.firstCells, hnc, storeCells, loadCells, loadCellsFrom]

theorem wp_appV {K : Act → World → Prop} {Q : Exit → Act → World → Prop} {t e : TypeId} {size bytes : Nat} (he : Elem P t e size bytes) (s x : Operand)
    (ho : o.op = .call { callee := .builtin .append, args := #[s, x], argTypes := #[t, t] }) (base : Nat) (v : Value) (n : Nat) (xs : List Value) (hs : a.eval s = v)
    (ad : Option Addr) (m c : Nat) (hx : a.eval x = .slice ad m c) (news : List Value) (hl : news.length = m * size) (h1 : ∀ u ∈ news, u.oneCell' = true) (hn : n + m ≤ 1000000000) (hby : bytes ≤ 10000)
    (hh : CellsAt w ad news) (hown : w.ownsRow base e size v n xs) (hbase : base ≤ w.heap.size)
    (h : ∀ v' w', w'.ownsRow base e size v' (n + m) (xs ++ news) → w.grownBy w' v.ownBlock → (v'.ownBlock = v.ownBlock ∨ v'.ownBlock = some w.heap.size) → (∀ b, v'.ownBlock = some b → b < w'.heap.size) → K (a.put o.dst v') w') : o.wp P a w K Q := by
  by_cases hm : 0 < m
  · have hsz : 0 < size := he.2.choose_spec.choose_spec.2.2.2.2.2
    have hne : news ≠ [] := by
      intro e0
      rw [e0] at hl
      have : 0 < m * size := Nat.mul_pos hm hsz
      simp at hl
      omega
    obtain ⟨b, off, rfl, hc⟩ := hh.resolve_left hne
    refine wp_appS he s x ho base v n xs hs ⟨b, off, none⟩ m c hx news hl h1 hm hn hby (fun j u hj => ?_) hown hbase fun g' cap w' h2 h3 h4 h5 => h _ w' h2 h3 ?_ ?_
    · obtain ⟨hlt, hu⟩ := List.getElem?_eq_some_iff.1 hj
      have := hc j hlt
      rw [List.getElem?_eq_getElem hlt, hu] at this
      rcases Nat.eq_zero_or_pos j with rfl | hj0
      · simpa [Addr.add] using this
      · simpa [Addr.add, Nat.ne_of_gt hj0] using this
    · rcases h4 with h4 | h4
      · exact .inl h4.symm
      · exact .inr (by rw [← h4]; rfl)
    · intro b' hb'; cases hb'; exact h5
  · obtain rfl : m = 0 := by omega
    obtain rfl : news = [] := List.eq_nil_of_length_eq_zero (by simpa using hl)
    obtain ⟨ht, i, z, hi, _⟩ := he
    have hrun := run_append_zero (P := P) (w := w) base t o.type e i size ht hi v n xs hown ad c
    unfold Oper.wp
    simp [execOp, ho, resolve, invoke, builtin, hs, hx, hrun, Result.andThen]
    exact h v w (by simpa using hown) (grown_refl _ _) (.inl rfl) (fun b hb => (hown.lt b hb).2)
theorem list_appV {Q : Exit → Act → World → Prop} {ops : Array Oper} {rest : List Oper} {t e : TypeId} {size bytes : Nat} (he : Elem P t e size bytes) (hgd : o.guard = none) (s x : Operand)
    (ho : o.op = .call { callee := .builtin .append, args := #[s, x], argTypes := #[t, t] }) (base : Nat) (v : Value) (n : Nat) (xs : List Value) (hs : a.eval s = v)
    (ad : Option Addr) (m c : Nat) (hx : a.eval x = .slice ad m c) (news : List Value) (hl : news.length = m * size) (h1 : ∀ u ∈ news, u.oneCell' = true) (hn : n + m ≤ 1000000000) (hby : bytes ≤ 10000)
    (hh : CellsAt w ad news) (hown : w.ownsRow base e size v n xs) (hbase : base ≤ w.heap.size)
    (h : ∀ v' w', w'.ownsRow base e size v' (n + m) (xs ++ news) → w.grownBy w' v.ownBlock → (v'.ownBlock = v.ownBlock ∨ v'.ownBlock = some w.heap.size) → (∀ b, v'.ownBlock = some b → b < w'.heap.size) → wpList P ops Q rest (a.put o.dst v') w') : wpList P ops Q (o :: rest) a w :=
  wpList_plain hgd fun _ hK => wp_appV he s x ho base v n xs hs ad m c hx news hl h1 hn hby hh hown hbase fun v' w' h2 h3 h4 h5 => hK _ _ (h v' w' h2 h3 h4 h5)
theorem step_appV {K : Act → World → Prop} {Q : Exit → Act → World → Prop} {ops : Array Oper} {E : Prop} {t e : TypeId} {size bytes : Nat} (he : Elem P t e size bytes) (hgd : o.guard = none) (s x : Operand)
    (ho : o.op = .call { callee := .builtin .append, args := #[s, x], argTypes := #[t, t] }) (base : Nat) (v : Value) (n : Nat) (xs : List Value) (hs : a.eval s = v)
    (ad : Option Addr) (m c : Nat) (hx : a.eval x = .slice ad m c) (news : List Value) (hl : news.length = m * size) (h1 : ∀ u ∈ news, u.oneCell' = true) (hn : n + m ≤ 1000000000) (hby : bytes ≤ 10000)
    (hh : CellsAt w ad news) (hown : w.ownsRow base e size v n xs) (hbase : base ≤ w.heap.size)
    (h : ∀ v' w', w'.ownsRow base e size v' (n + m) (xs ++ news) → w.grownBy w' v.ownBlock → (v'.ownBlock = v.ownBlock ∨ v'.ownBlock = some w.heap.size) → (∀ b, v'.ownBlock = some b → b < w'.heap.size) → K (a.put o.dst v') w') :
    if Region.wanted o (yielded ops a.tmps) = true then Oper.wp P o a w K Q else E := by
  rw [if_pos (by simp [Region.wanted, hgd])]
  exact wp_appV he s x ho base v n xs hs ad m c hx news hl h1 hn hby hh hown hbase h
/-- What append leaves of a row among the resources. -/
theorem St.appV {w0 w w' W : World} {rs : List Res} {v v' : Value} {e : TypeId} {size n n' : Nat} {xs xs' : List Value} {base : Nat} (h : St w0 w (row v e size n xs :: rs)) (hW : w.grownBy W none)
    (hown : w'.ownsRow base e size v' n' xs') (hg : W.grownBy w' v.ownBlock) (hat : v'.ownBlock = v.ownBlock ∨ v'.ownBlock = some W.heap.size) (hl : ∀ b, v'.ownBlock = some b → b < w'.heap.size) : St w0 w' (row v' e size n' xs' :: rs) := by
  have h2 : St w0 W (row v e size n xs :: rs) := h.kept hW (by simp) fun z _ => by cases z.blk <;> simp
  refine h2.turn hg (row_own hown) (fun b hb => ?_) hl
  rcases hat with e | e
  · exact .inl (e.symm.trans hb)
  · refine .inr ?_
    have : some W.heap.size = some b := e.symm.trans hb
    cases this
    exact Nat.le_refl _
end

end Go.Proofs.YtebklbncfcdkmaaDoor
