
/-
  Words that the other texts of this claim use: a slice of ints that lies in memory, the reader of a code, frames. No statement is proved here.
-/
import Derived.Test.YtebklbncfcdkmaaDoorProg
import Derived.WalkKit
import Derived.WalkSpells
import Derived.WalkLawsBesides
import Derived.Deep.QuietTactic
import Derived.BigQuiet
import Derived.Lib.Hide
import Derived.Deep.RegionLaw
import Derived.Deep.AppendLies
import Derived.Outline
import Derived.OpenShut
namespace Go.Proofs.YtebklbncfcdkmaaDoor
open Go.RowKit

/-- The ints xs lie from a on. -/
def IntsAt (w : World) (a : Option Addr) (xs : List Int) : Prop :=
  xs = [] ∨ ∃ b off, a = some ⟨b, off, none⟩ ∧ ∀ j, j < xs.length → w.cell? ⟨b, off + j, none⟩ = some (.int .i64 (xs.getD j 0))

/-- n bytes lie from a on. -/
def BytesAt (w : World) (a : Option Addr) (n : Nat) : Prop :=
  n = 0 ∨ ∃ c off, a = some ⟨c, off, none⟩ ∧ ∀ j, j < n → ∃ z : Nat, z < 256 ∧ w.cell? ⟨c, off + j, none⟩ = some (.int .u8 z)

/-- Block b is a reader that has picked at most m times. -/
def Rd (w : World) (b : Nat) (s : Value) (m : Nat) : Prop :=
  ∃ (a : Option Addr) (n cap p : Nat), s = .slice a n cap ∧ w.heap[b]? = some (.cells #[.slice a n cap, .int .i64 p] 95 (0, 0)) ∧ p ≤ m ∧ n ≤ 2000 ∧ BytesAt w a n ∧ (∀ x, a = some x → n ≠ 0 → x.block < b)

theorem grown_refl (w : World) (r : Option Nat) : w.grownBy w r := ⟨rfl, rfl, rfl, Nat.le_refl _, fun _ _ _ => rfl⟩
theorem grown_trans {a b c : World} {r : Option Nat} (h : a.grownBy b r) (k : b.grownBy c r) : a.grownBy c r :=
  ⟨k.os.trans h.os, k.tape.trans h.tape, k.output.trans h.output, Nat.le_trans h.size k.size, fun i hi hr => (k.block i (Nat.lt_of_lt_of_le hi h.size) hr).trans (h.block i hi hr)⟩
theorem grown_drew {a b : World} {r : Option Nat} (h : a.grownBy b r) : a.grownBy b.drew r := ⟨h.os, h.tape, h.output, h.size, h.block⟩
theorem drew_grown {a b : World} {r : Option Nat} (h : a.drew.grownBy b r) : a.grownBy b r := ⟨h.os, h.tape, h.output, h.size, h.block⟩
theorem grown_drewN {a b : World} {r : Option Nat} (h : a.grownBy b r) (n : Nat) : a.grownBy (b.drewN n) r := ⟨h.os, h.tape, h.output, h.size, h.block⟩
theorem grown_set {a b : World} {k : Nat} (h : a.grownBy b (some k)) (o : Nat) (v : Value) : a.grownBy (b.setCell ⟨k, o, none⟩ v) (some k) :=
  grown_trans h ⟨rfl, rfl, rfl, by simp [World.setCell], fun i _ hi => by
    rw [Below.heap_setCell]
    intro e; exact hi (by rw [e])⟩
theorem grown_below {w w' : World} (h : w.grownBy w' none) : Below w.heap.size w w' := ⟨h.os, h.tape, h.output, h.size, fun k hk => h.block k hk (by simp)⟩
theorem below_grown {w w' : World} (h : Below w.heap.size w w') (r : Option Nat) : w.grownBy w' r := ⟨h.os, h.tape, h.output, h.size, fun k hk _ => h.block k hk⟩

theorem cell_of_heap {w : World} {b o : Nat} {cs : Array Value} {t : TypeId} {f : Nat × Nat} (h : w.heap[b]? = some (.cells cs t f)) : w.cell? ⟨b, o, none⟩ = cs[o]? := by
  simp [World.cell?, h]
theorem frozen_of_heap {w : World} {b o : Nat} {cs : Array Value} {t : TypeId} (h : w.heap[b]? = some (.cells cs t (0, 0))) : w.frozen? ⟨b, o, none⟩ = false := by
  simp [World.frozen?, h]
theorem heap_set {w : World} {b o : Nat} {cs : Array Value} {t : TypeId} {f : Nat × Nat} (h : w.heap[b]? = some (.cells cs t f)) (v : Value) :
    (w.setCell ⟨b, o, none⟩ v).heap[b]? = some (.cells (cs.setIfInBounds o v) t f) := by
  simp [World.setCell, Array.getElem?_modify, h]
theorem lt_of_heap {w : World} {b : Nat} {o : Obj} (h : w.heap[b]? = some o) : b < w.heap.size := (Array.getElem?_eq_some_iff.1 h).1
theorem lt_of_cell {w : World} {b o : Nat} {v : Value} (h : w.cell? ⟨b, o, none⟩ = some v) : b < w.heap.size := World.block_lt_of_cell? w ⟨b, o, none⟩ h

theorem IntsAt.below {w w' : World} {a : Option Addr} {xs : List Int} (h : IntsAt w a xs) (hb : Below w.heap.size w w') : IntsAt w' a xs := by
  rcases h with h | ⟨b, off, rfl, hc⟩
  · exact .inl h
  · exact .inr ⟨b, off, rfl, fun j hj => by rw [hb.cell (p := ⟨b, off + j, none⟩) (lt_of_cell (hc j hj))]; exact hc j hj⟩
theorem BytesAt.grown {w w' : World} {a : Option Addr} {n : Nat} {r : Option Nat} (h : BytesAt w a n) (hb : w.grownBy w' r) (ha : ∀ x, a = some x → n ≠ 0 → some x.block ≠ r) : BytesAt w' a n := by
  rcases h with h | ⟨b, off, rfl, hc⟩
  · exact .inl h
  · refine .inr ⟨b, off, rfl, fun j hj => ?_⟩
    obtain ⟨z, hz, hcell⟩ := hc j hj
    exact ⟨z, hz, hb.cell hcell (ha ⟨b, off, none⟩ rfl (by omega))⟩
theorem grown_new {a b : World} {r : Option Nat} (h : a.grownBy b r) (o : Obj) : a.grownBy (b.alloc o) r := grown_trans h (World.grownBy_alloc b o r)
/-- A step that writes, of what was there, at most a block that is new since a. -/
theorem grown_own {a b c : World} {r r' : Option Nat} (h : a.grownBy b r) (k : b.grownBy c r') (hr : ∀ x, r' = some x → a.heap.size ≤ x) : a.grownBy c r :=
  ⟨k.os.trans h.os, k.tape.trans h.tape, k.output.trans h.output, Nat.le_trans h.size k.size, fun i hi hne => (k.block i (Nat.lt_of_lt_of_le hi h.size) (fun e => by have := hr i e.symm; omega)).trans (h.block i hi hne)⟩
theorem grown_put (a : World) (p : Addr) (v : Value) : a.grownBy (a.setCell p v) (some p.block) :=
  ⟨rfl, rfl, rfl, by simp [World.setCell], fun i _ hi => by
    obtain ⟨k, o, s⟩ := p
    rw [Below.heap_setCell]
    intro e; exact hi (by rw [e])⟩
theorem grown_setNew {a b : World} {r : Option Nat} (h : a.grownBy b r) {p : Addr} (hp : a.heap.size ≤ p.block) (v : Value) : a.grownBy (b.setCell p v) r :=
  grown_own h (grown_put b p v) (fun x hx => by cases hx; exact hp)
theorem Rd.grown {w w' : World} {b m : Nat} {s : Value} {r : Option Nat} (h : Rd w b s m) (hg : w.grownBy w' r) (hr : ∀ x, r = some x → b < x) : Rd w' b s m := by
  obtain ⟨a, n, cap, p, hs, hh, hp, hn, hb, ha⟩ := h
  refine ⟨a, n, cap, p, hs, ?_, hp, hn, hb.grown hg (fun x hx hn0 e => ?_), ha⟩
  · rw [hg.block b (Array.getElem?_eq_some_iff.1 hh).1 (fun e => by have := hr b e.symm; omega)]; exact hh
  · have h1 := ha x hx hn0; have h2 := hr _ e.symm; omega
theorem Rd.lt {w : World} {b m : Nat} {s : Value} (h : Rd w b s m) : b < w.heap.size := by
  obtain ⟨a, n, cap, p, _, hh, _⟩ := h
  exact (Array.getElem?_eq_some_iff.1 hh).1
theorem Rd.mono {w : World} {b m m' : Nat} {s : Value} (h : Rd w b s m) (hm : m ≤ m') : Rd w b s m' := by
  obtain ⟨a, n, cap, p, hs, hh, hp, r⟩ := h
  exact ⟨a, n, cap, p, hs, hh, by omega, r⟩

theorem heap_one {w : World} {V : Nat} {o : Obj} (h : w.heap[V]? = some o) (x : Obj) : (w.alloc x).heap[V]? = some o := by
  rw [Go.heap_alloc_old w x (lt_of_heap h)]; exact h
theorem heap_two {w : World} {V : Nat} {o : Obj} (h : w.heap[V]? = some o) (x y : Obj) : ((w.alloc x).alloc y).heap[V]? = some o := heap_one (heap_one h x) y
theorem heap_second (w : World) (x y : Obj) : ((w.alloc x).alloc y).heap[w.heap.size + 1]? = some y := by
  have := heap_alloc_new (w.alloc x) y
  simpa using this
theorem heap_first (w : World) (x y : Obj) : ((w.alloc x).alloc y).heap[w.heap.size]? = some x := heap_one (heap_alloc_new w x) y
/-- A block that is not the row is kept. -/
theorem heap_kept {w w' : World} {V : Nat} {o : Obj} {r : Option Nat} (h : w.heap[V]? = some o) (hg : w.grownBy w' r) (hv : r ≠ some V) : w'.heap[V]? = some o := by
  rw [hg.block V (lt_of_heap h) (Ne.symm hv)]
  exact h

/-- A slice's type and its element's. -/
def Elem (P : Program) (t e : TypeId) (size bytes : Nat) : Prop :=
  P.underlying t = some (.slice e) ∧ ∃ i z, P.info? e = some i ∧ i.zero = some z ∧ i.size = size ∧ i.bytes = bytes ∧ z.cells.size = size ∧ 0 < size

section
variable {P : Program} {w : World} {o : Oper} {a : Act}
/-- Elements that lie in a block of their own are appended to a row of the call's own, at the operation. -/
theorem wp_app {K : Act → World → Prop} {Q : Exit → Act → World → Prop} {t e : TypeId} {size bytes : Nat} (he : Elem P t e size bytes) (s x : Operand)
    (ho : o.op = .call { callee := .builtin .append, args := #[s, x], argTypes := #[t, t] }) (base : Nat) (v : Value) (n : Nat) (xs : List Value) (hs : a.eval s = v)
    (g m c : Nat) (hx : a.eval x = .slice (some ⟨g, 0, none⟩) m c) (news : Array Value) (e' : TypeId) (fr : Nat × Nat) (hl : news.size = m * size) (h1 : ∀ u ∈ news.toList, u.oneCell' = true) (hm : 0 < m) (hn : n + m ≤ 1000000000) (hby : bytes ≤ 10000)
    (hh : w.heap[g]? = some (.cells news e' fr)) (hown : w.ownsRow base e size v n xs) (hbase : base ≤ w.heap.size)
    (h : ∀ g' cap w', w'.ownsRow base e size (.slice (some ⟨g', 0, none⟩) (n + m) cap) (n + m) (xs ++ news.toList) → w.grownBy w' v.ownBlock → (v.ownBlock = some g' ∨ g' = w.heap.size) → g' < w'.heap.size → K (a.put o.dst (.slice (some ⟨g', 0, none⟩) (n + m) cap)) w') : o.wp P a w K Q := by
  obtain ⟨ht, i, z, hi, hz, hsize, hb, hzs, hsz⟩ := he
  refine wp_append_lies w s x t ho base e i z size bytes ht hi hz hsize hb hzs hsz v n xs hs hown ⟨g, 0, none⟩ m c news.toList hx (by simpa using hl) (World.news_of_block hh) h1 hm (by unfold maxLen; omega) ?_ hbase _ rfl h
  exact Nat.le_trans (Nat.mul_le_mul hn hby) (by decide)
theorem step_app {K : Act → World → Prop} {Q : Exit → Act → World → Prop} {ops : Array Oper} {E : Prop} {t e : TypeId} {size bytes : Nat} (he : Elem P t e size bytes) (hgd : o.guard = none) (s x : Operand)
    (ho : o.op = .call { callee := .builtin .append, args := #[s, x], argTypes := #[t, t] }) (base : Nat) (v : Value) (n : Nat) (xs : List Value) (hs : a.eval s = v)
    (g m c : Nat) (hx : a.eval x = .slice (some ⟨g, 0, none⟩) m c) (news : Array Value) (e' : TypeId) (fr : Nat × Nat) (hl : news.size = m * size) (h1 : ∀ u ∈ news.toList, u.oneCell' = true) (hm : 0 < m) (hn : n + m ≤ 1000000000) (hby : bytes ≤ 10000)
    (hh : w.heap[g]? = some (.cells news e' fr)) (hown : w.ownsRow base e size v n xs) (hbase : base ≤ w.heap.size)
    (h : ∀ g' cap w', w'.ownsRow base e size (.slice (some ⟨g', 0, none⟩) (n + m) cap) (n + m) (xs ++ news.toList) → w.grownBy w' v.ownBlock → (v.ownBlock = some g' ∨ g' = w.heap.size) → g' < w'.heap.size → K (a.put o.dst (.slice (some ⟨g', 0, none⟩) (n + m) cap)) w') :
    if Region.wanted o (yielded ops a.tmps) = true then Oper.wp P o a w K Q else E := by
  rw [if_pos (by simp [Region.wanted, hgd])]
  exact wp_app he s x ho base v n xs hs g m c hx news e' fr hl h1 hm hn hby hh hown hbase h
theorem list_app {Q : Exit → Act → World → Prop} {ops : Array Oper} {rest : List Oper} {t e : TypeId} {size bytes : Nat} (he : Elem P t e size bytes) (hgd : o.guard = none) (s x : Operand)
    (ho : o.op = .call { callee := .builtin .append, args := #[s, x], argTypes := #[t, t] }) (base : Nat) (v : Value) (n : Nat) (xs : List Value) (hs : a.eval s = v)
    (g m c : Nat) (hx : a.eval x = .slice (some ⟨g, 0, none⟩) m c) (news : Array Value) (e' : TypeId) (fr : Nat × Nat) (hl : news.size = m * size) (h1 : ∀ u ∈ news.toList, u.oneCell' = true) (hm : 0 < m) (hn : n + m ≤ 1000000000) (hby : bytes ≤ 10000)
    (hh : w.heap[g]? = some (.cells news e' fr)) (hown : w.ownsRow base e size v n xs) (hbase : base ≤ w.heap.size)
    (h : ∀ g' cap w', w'.ownsRow base e size (.slice (some ⟨g', 0, none⟩) (n + m) cap) (n + m) (xs ++ news.toList) → w.grownBy w' v.ownBlock → (v.ownBlock = some g' ∨ g' = w.heap.size) → g' < w'.heap.size → wpList P ops Q rest (a.put o.dst (.slice (some ⟨g', 0, none⟩) (n + m) cap)) w') : wpList P ops Q (o :: rest) a w :=
  wpList_plain hgd fun _ hK => wp_app he s x ho base v n xs hs g m c hx news e' fr hl h1 hm hn hby hh hown hbase fun g' cap w' h2 h3 h4 h5 => hK _ _ (h g' cap w' h2 h3 h4 h5)
end

/-- What 'x.f = append(x.f, ..)' leaves, x in a block of its own. -/
structure Boxed (wr w4 : World) (base V f : Nat) (cs : Array Value) (ty e : TypeId) (size : Nat) (v v' : Value) (n' : Nat) (xs' : List Value) : Prop where
  box : w4.heap[V]? = some (.cells (cs.setIfInBounds f v') ty (0, 0))
  own : w4.ownsRow base e size v' n' xs'
  ne : v'.ownBlock ≠ some V
  grown : ∀ (w0 : World) r, w0.grownBy wr r → w0.heap.size ≤ base → w0.heap.size ≤ V → w0.grownBy w4 r
  kept : ∀ k o, wr.heap[k]? = some o → k ≠ V → v.ownBlock ≠ some k → w4.heap[k]? = some o
  rd : ∀ b s m, Rd wr b s m → b < base → b < V → Rd w4 b s m

theorem box_app {wr w2 w3 : World} {base V f : Nat} {cs : Array Value} {ty e : TypeId} {size : Nat} {v : Value} {n : Nat} {xs : List Value} {g n' cap : Nat} {xs' : List Value} (hV : wr.heap[V]? = some (.cells cs ty (0, 0))) (hown : wr.ownsRow base e size v n xs) (hv : v.ownBlock ≠ some V)
    (hg2 : wr.grownBy w2 none) (hown1 : w3.ownsRow base e size (.slice (some ⟨g, 0, none⟩) n' cap) n' xs') (hgrow : w2.grownBy w3 v.ownBlock) (hat : v.ownBlock = some g ∨ g = w2.heap.size) :
    Boxed wr (w3.setCell ⟨V, f, none⟩ (.slice (some ⟨g, 0, none⟩) n' cap)) base V f cs ty e size v (.slice (some ⟨g, 0, none⟩) n' cap) n' xs' := by
  have hVl := lt_of_heap hV
  have hgV : g ≠ V := by
    rcases hat with h | h
    · intro e; exact hv (by rw [h, e])
    · have := hg2.size; omega
  have hb : ∀ x, v.ownBlock = some x → base ≤ x := fun x hx => (hown.lt x hx).1
  refine ⟨?_, ?_, ?_, ?_, ?_, ?_⟩
  · exact heap_set (heap_kept (heap_kept hV hg2 (by simp)) hgrow hv) _
  · refine hown1.kept (grown_put w3 ⟨V, f, none⟩ _) (.inr ?_)
    simp [Value.ownBlock, hgV]
  · simp [Value.ownBlock, hgV]
  · intro w0 r h h1 h2
    exact grown_setNew (grown_own (grown_own h hg2 (by simp)) hgrow (fun x hx => Nat.le_trans h1 (hb x hx))) (p := ⟨V, f, none⟩) h2 _
  · intro k o hk hkV hvk
    refine heap_kept (heap_kept (heap_kept hk hg2 (by simp)) hgrow hvk) (grown_put w3 ⟨V, f, none⟩ _) ?_
    simp [Ne.symm hkV]
  · intro b s m h h1 h2
    refine ((h.grown hg2 (by simp)).grown hgrow (fun x hx => Nat.lt_of_lt_of_le h1 (hb x hx))).grown (grown_put w3 ⟨V, f, none⟩ _) ?_
    intro x hx; cases hx; exact h2

section
variable {P : Program} {w : World} {o : Oper} {a : Act}
/-- The elements of another slice are appended to a row of the call's own, at the operation. -/
theorem wp_appS {K : Act → World → Prop} {Q : Exit → Act → World → Prop} {t e : TypeId} {size bytes : Nat} (he : Elem P t e size bytes) (s x : Operand)
    (ho : o.op = .call { callee := .builtin .append, args := #[s, x], argTypes := #[t, t] }) (base : Nat) (v : Value) (n : Nat) (xs : List Value) (hs : a.eval s = v)
    (ad : Addr) (m c : Nat) (hx : a.eval x = .slice (some ad) m c) (news : List Value) (hl : news.length = m * size) (h1 : ∀ u ∈ news, u.oneCell' = true) (hm : 0 < m) (hn : n + m ≤ 1000000000) (hby : bytes ≤ 10000)
    (hh : ∀ j u, news[j]? = some u → w.cell? (ad.add j) = some u) (hown : w.ownsRow base e size v n xs) (hbase : base ≤ w.heap.size)
    (h : ∀ g' cap w', w'.ownsRow base e size (.slice (some ⟨g', 0, none⟩) (n + m) cap) (n + m) (xs ++ news) → w.grownBy w' v.ownBlock → (v.ownBlock = some g' ∨ g' = w.heap.size) → g' < w'.heap.size → K (a.put o.dst (.slice (some ⟨g', 0, none⟩) (n + m) cap)) w') : o.wp P a w K Q := by
  obtain ⟨ht, i, z, hi, hz, hsize, hb, hzs, hsz⟩ := he
  refine wp_append_lies w s x t ho base e i z size bytes ht hi hz hsize hb hzs hsz v n xs hs hown ad m c news hx hl hh h1 hm (by unfold maxLen; omega) ?_ hbase _ rfl h
  exact Nat.le_trans (Nat.mul_le_mul hn hby) (by decide)
theorem step_appS {K : Act → World → Prop} {Q : Exit → Act → World → Prop} {ops : Array Oper} {E : Prop} {t e : TypeId} {size bytes : Nat} (he : Elem P t e size bytes) (hgd : o.guard = none) (s x : Operand)
    (ho : o.op = .call { callee := .builtin .append, args := #[s, x], argTypes := #[t, t] }) (base : Nat) (v : Value) (n : Nat) (xs : List Value) (hs : a.eval s = v)
    (ad : Addr) (m c : Nat) (hx : a.eval x = .slice (some ad) m c) (news : List Value) (hl : news.length = m * size) (h1 : ∀ u ∈ news, u.oneCell' = true) (hm : 0 < m) (hn : n + m ≤ 1000000000) (hby : bytes ≤ 10000)
    (hh : ∀ j u, news[j]? = some u → w.cell? (ad.add j) = some u) (hown : w.ownsRow base e size v n xs) (hbase : base ≤ w.heap.size)
    (h : ∀ g' cap w', w'.ownsRow base e size (.slice (some ⟨g', 0, none⟩) (n + m) cap) (n + m) (xs ++ news) → w.grownBy w' v.ownBlock → (v.ownBlock = some g' ∨ g' = w.heap.size) → g' < w'.heap.size → K (a.put o.dst (.slice (some ⟨g', 0, none⟩) (n + m) cap)) w') :
    if Region.wanted o (yielded ops a.tmps) = true then Oper.wp P o a w K Q else E := by
  rw [if_pos (by simp [Region.wanted, hgd])]
  exact wp_appS he s x ho base v n xs hs ad m c hx news hl h1 hm hn hby hh hown hbase h
theorem list_appS {Q : Exit → Act → World → Prop} {ops : Array Oper} {rest : List Oper} {t e : TypeId} {size bytes : Nat} (he : Elem P t e size bytes) (hgd : o.guard = none) (s x : Operand)
    (ho : o.op = .call { callee := .builtin .append, args := #[s, x], argTypes := #[t, t] }) (base : Nat) (v : Value) (n : Nat) (xs : List Value) (hs : a.eval s = v)
    (ad : Addr) (m c : Nat) (hx : a.eval x = .slice (some ad) m c) (news : List Value) (hl : news.length = m * size) (h1 : ∀ u ∈ news, u.oneCell' = true) (hm : 0 < m) (hn : n + m ≤ 1000000000) (hby : bytes ≤ 10000)
    (hh : ∀ j u, news[j]? = some u → w.cell? (ad.add j) = some u) (hown : w.ownsRow base e size v n xs) (hbase : base ≤ w.heap.size)
    (h : ∀ g' cap w', w'.ownsRow base e size (.slice (some ⟨g', 0, none⟩) (n + m) cap) (n + m) (xs ++ news) → w.grownBy w' v.ownBlock → (v.ownBlock = some g' ∨ g' = w.heap.size) → g' < w'.heap.size → wpList P ops Q rest (a.put o.dst (.slice (some ⟨g', 0, none⟩) (n + m) cap)) w') : wpList P ops Q (o :: rest) a w :=
  wpList_plain hgd fun _ hK => wp_appS he s x ho base v n xs hs ad m c hx news hl h1 hm hn hby hh hown hbase fun g' cap w' h2 h3 h4 h5 => hK _ _ (h g' cap w' h2 h3 h4 h5)
end

/-- What the walk is told of a slice of integers that came in. -/
def IsRow (k : IntKind) (w : World) (a : Option Addr) (len cap : Nat) (zs : List Int) : Prop :=
  (a = none ∧ len = 0 ∧ cap = 0 ∧ zs = []) ∨
  ∃ x, a = some x ∧ len ≤ cap ∧ cap ≤ maxLen ∧ zs.length = cap ∧ (∀ i, i < zs.length → w.cell? (x.add i) = some (.int k (zs.getD i 0))) ∧ ∀ n ∈ zs, (Lit.int k n).wf = true
theorem IsRow.le {k : IntKind} {w : World} {a : Option Addr} {len cap : Nat} {zs : List Int} (h : IsRow k w a len cap zs) : len ≤ cap ∧ cap ≤ maxLen := by
  rcases h with ⟨_, h1, h2, _⟩ | ⟨_, _, h1, h2, _⟩
  · subst h1 h2; exact ⟨Nat.le_refl _, Nat.zero_le _⟩
  · exact ⟨h1, h2⟩
theorem IsRow.at {k : IntKind} {w : World} {a : Option Addr} {len cap : Nat} {zs : List Int} (h : IsRow k w a len cap zs) : len = 0 ∨ ∃ b off, a = some ⟨b, off, none⟩ ∧ ∀ j, j < len → w.cell? ⟨b, off + j, none⟩ = some (.int k (zs.getD j 0)) ∧ (Lit.int k (zs.getD j 0)).wf = true := by
  rcases h with ⟨_, h1, _⟩ | ⟨x, rfl, h1, h2, h3, h4, h5⟩
  · exact .inl h1
  · by_cases hl : len = 0
    · exact .inl hl
    · right
      obtain ⟨b, off, s⟩ := x
      have h0 := h4 0 (by omega)
      obtain rfl : s = none := by simpa [Addr.add] using World.cell?_spot h0
      refine ⟨b, off, rfl, fun j hj => ?_⟩
      have hj' : j < zs.length := by omega
      have hc := h4 j hj'
      have e : (⟨b, off, none⟩ : Addr).add j = ⟨b, off + j, none⟩ := by unfold Addr.add; split <;> simp_all
      rw [e] at hc
      exact ⟨hc, h5 _ (by simp [List.getD, hj'])⟩
theorem IsRow.bytes {w : World} {a : Option Addr} {len cap : Nat} {zs : List Int} (h : IsRow .u8 w a len cap zs) : BytesAt w a len := by
  rcases h.at with h | ⟨b, off, rfl, hc⟩
  · exact .inl h
  · refine .inr ⟨b, off, rfl, fun j hj => ?_⟩
    obtain ⟨h1, h2⟩ := hc j hj
    have h3 : 0 ≤ zs.getD j 0 ∧ zs.getD j 0 < 256 := by
      have := bounds_u8 h2
      omega
    exact ⟨(zs.getD j 0).toNat, by omega, by rw [h1, Int.toNat_of_nonneg h3.1]⟩
theorem IsRow.ints {w : World} {a : Option Addr} {len cap : Nat} {zs : List Int} (h : IsRow .i64 w a len cap zs) : ∃ xs : List Int, xs.length = len ∧ IntsAt w a xs ∧ ∀ x ∈ xs, -9223372036854775808 ≤ x ∧ x ≤ 9223372036854775807 := by
  rcases h.at with h | ⟨b, off, rfl, hc⟩
  · exact ⟨[], h.symm, .inl rfl, by simp⟩
  · refine ⟨(List.range len).map fun j => zs.getD j 0, by simp, .inr ⟨b, off, rfl, fun j hj => ?_⟩, fun x hx => ?_⟩
    · simp at hj
      rw [(hc j hj).1]
      simp [hj]
    · simp at hx
      obtain ⟨j, hj, rfl⟩ := hx
      have := bounds_i64 (hc j hj).2
      simp at this
      exact this

theorem own_ints {w : World} {base g cap : Nat} {xs : List Int} (h : w.ownsRow base 3 1 (.slice (some ⟨g, 0, none⟩) xs.length cap) xs.length (xs.map (Value.int .i64))) : IntsAt w (some ⟨g, 0, none⟩) xs :=
  .inr ⟨g, 0, rfl, fun j hj => by
    rw [Nat.zero_add, h.cellAt j (by omega)]
    simp [hj]⟩

theorem elem_int : Elem Tryd.prog 96 3 1 8 := by
  obtain ⟨i, hi, h0, h1, h2⟩ := info_parts (show (Tryd.prog.info? 3).map (fun i => (i.zero, i.size, i.bytes)) = some (some (.int .i64 0), 1, 8) by kernel_rfl)
  exact ⟨Tryd.underlying96, i, _, hi, h0, h1, h2, rfl, by omega⟩

/-- A callee that leaves the world as it is, in a region that draws its order. -/
theorem quiet_here {P : Program} {f : FuncId} {args : Array Value} {w : World} {n : Nat} {v : Value} (h : Calls P f args (w.drewN n) fun e w' => e = .returned v ∧ w.drewN n = w') : Calls P f args (w.drewN n) fun e w'' => e = .returned v ∧ ∃ m, w'' = w.drewN m :=
  h.mono fun _ _ ⟨he, hm⟩ => ⟨he, n, hm.symm⟩

/-- .. where the world ahead of the region has drawn before. -/
theorem quiet_at {P : Program} {f : FuncId} {args : Array Value} {w : World} {n k : Nat} {v : Value} (h : Calls P f args (w.drewN (n + k)) fun e w' => e = .returned v ∧ w.drewN (n + k) = w') : Calls P f args (w.drewN (n + k)) fun e w'' => e = .returned v ∧ ∃ m, w'' = w.drewN (n + m) :=
  h.mono fun _ _ ⟨he, hm⟩ => ⟨he, k, hm.symm⟩

theorem bits_nonneg (x : Int) (h0 : 0 ≤ x) (h1 : x < 4611686018427387904) : 0 ≤ bits .xor .i64 x (x / 64) := by
  obtain ⟨a, rfl⟩ := Int.eq_ofNat_of_zero_le h0
  have ha : a < 2 ^ 62 := by omega
  have hb : a / 64 < 2 ^ 62 := by omega
  have e : ((a : Int) / 64) = ((a / 64 : Nat) : Int) := by omega
  rw [e]
  have hx : a ^^^ (a / 64) < 2 ^ 62 := Nat.xor_lt_two_pow ha hb
  have h1 : (BitVec.ofInt 64 (a : Int)).toNat = a := by
    rw [BitVec.ofInt_natCast, BitVec.toNat_ofNat]; exact Nat.mod_eq_of_lt (by omega)
  have h2 : (BitVec.ofInt 64 ((a / 64 : Nat) : Int)).toNat = a / 64 := by
    rw [BitVec.ofInt_natCast, BitVec.toNat_ofNat]; exact Nat.mod_eq_of_lt (by omega)
  show 0 ≤ IntKind.i64.wrap ((BitVec.ofInt 64 (a : Int) ^^^ BitVec.ofInt 64 ((a / 64 : Nat) : Int)).toNat : Int)
  rw [BitVec.toNat_xor, h1, h2, IntKind.wrap_i64]
  omega

end Go.Proofs.YtebklbncfcdkmaaDoor
