
/-
  What a world holds besides what came in: resources, each in a block of its own, apart from each other and from all that was there. No statement is proved here.
-/
import Derived.Test.YtebklbncfcdkmaaDoorK2
namespace Go.Proofs.YtebklbncfcdkmaaDoor
open Go.RowKit

/-- A block (or none), and what is known of it. -/
structure Res where
  blk : Option Nat
  P : Option Obj → Prop

def Res.look (r : Res) (w : World) : Option Obj := r.blk.bind fun b => w.heap[b]?
def Res.holds (r : Res) (w : World) : Prop := r.P (r.look w)
def Res.apart (r s : Res) : Prop := r.blk = none ∨ r.blk ≠ s.blk

/-- Nothing of w0 has changed; the resources hold, lie in blocks that are new since w0, and apart. -/
def St (w0 w : World) : List Res → Prop
  | [] => Below w0.heap.size w0 w
  | r :: rs => r.holds w ∧ (∀ b, r.blk = some b → w0.heap.size ≤ b ∧ b < w.heap.size) ∧ (∀ s ∈ rs, Res.apart r s) ∧ St w0 w rs

def boxo (b : Nat) (o : Obj) : Res := ⟨some b, fun x => x = some o⟩
abbrev box (b : Nat) (cs : Array Value) (t : TypeId) : Res := boxo b (.cells cs t (0, 0))
def row (v : Value) (e : TypeId) (size n : Nat) (xs : List Value) : Res :=
  ⟨v.ownBlock, fun o => xs.length = n * size ∧ ((v = .slice none 0 0 ∧ n = 0) ∨ ∃ g cap cur, v = .slice (some ⟨g, 0, none⟩) n cap ∧ o = some (.cells cur e (0, 0)) ∧ n ≤ cap ∧ cap ≤ maxLen ∧ cur.size = cap * size ∧ cur.toList.take (n * size) = xs)⟩
def rd (w0 : World) (b m : Nat) : Res :=
  ⟨some b, fun o => ∃ (a : Option Addr) (n cap p : Nat), o = some (.cells #[.slice a n cap, .int .i64 p] 95 (0, 0)) ∧ p ≤ m ∧ n ≤ 2000 ∧ BytesAt w0 a n⟩

theorem Res.apart_symm {r s : Res} (h : r.apart s) : s.apart r := by
  rcases h with h | h
  · cases hs : s.blk with
    | none => exact .inl hs
    | some b => exact .inr (by rw [h, hs]; simp)
  · exact .inr (Ne.symm h)

section
variable {w0 w w' : World} {rs : List Res} {r s t u x y : Res}

theorem St.below : ∀ {rs : List Res}, St w0 w rs → Below w0.heap.size w0 w
  | [], h => h
  | _ :: _, h => St.below h.2.2.2
theorem St.blk_lt : ∀ {rs : List Res}, St w0 w rs → ∀ z ∈ rs, ∀ b, z.blk = some b → b < w.heap.size
  | [], _, z, hz, _, _ => by cases hz
  | a :: l, h, z, hz, b, hb => by
    rcases List.mem_cons.1 hz with rfl | hz
    · exact (h.2.1 b hb).2
    · exact St.blk_lt h.2.2.2 z hz b hb
theorem St.drop (h : St w0 w (r :: rs)) : St w0 w rs := h.2.2.2
theorem St.start (w : World) : St w w [] := Below.refl _ _
theorem St.size (h : St w0 w rs) : w0.heap.size ≤ w.heap.size := h.below.size

theorem St.at1 (h : St w0 w (r :: s :: rs)) : St w0 w (s :: r :: rs) := by
  obtain ⟨h1, h2, h3, k1, k2, k3, hr⟩ := h
  refine ⟨k1, k2, ?_, h1, h2, ?_, hr⟩
  · intro z hz
    rcases List.mem_cons.1 hz with rfl | hz
    · exact Res.apart_symm (h3 s (by simp))
    · exact k3 z hz
  · intro z hz; exact h3 z (by simp [hz])
theorem St.under (h : St w0 w (r :: rs)) {rs' : List Res} (f : St w0 w rs → St w0 w rs') (hm : ∀ z ∈ rs', z ∈ rs) : St w0 w (r :: rs') :=
  ⟨h.1, h.2.1, fun z hz => h.2.2.1 z (hm z hz), f h.2.2.2⟩
theorem St.at2 (h : St w0 w (r :: s :: t :: rs)) : St w0 w (t :: r :: s :: rs) := (h.under St.at1 (by simp [or_left_comm])).at1
theorem St.at3 (h : St w0 w (r :: s :: t :: u :: rs)) : St w0 w (u :: r :: s :: t :: rs) := (h.under St.at2 (by intro z; simp only [List.mem_cons]; rintro (h|h|h|h) <;> simp [h])).at1
theorem St.at4 (h : St w0 w (r :: s :: t :: u :: x :: rs)) : St w0 w (x :: r :: s :: t :: u :: rs) := (h.under St.at3 (by intro z; simp only [List.mem_cons]; rintro (h|h|h|h|h) <;> simp [h])).at1
theorem St.at5 (h : St w0 w (r :: s :: t :: u :: x :: y :: rs)) : St w0 w (y :: r :: s :: t :: u :: x :: rs) := (h.under St.at4 (by intro z; simp only [List.mem_cons]; rintro (h|h|h|h|h|h) <;> simp [h])).at1
theorem St.to1 (h : St w0 w (s :: r :: rs)) : St w0 w (r :: s :: rs) := h.at1
theorem St.to2 (h : St w0 w (t :: r :: s :: rs)) : St w0 w (r :: s :: t :: rs) := h.at1.under St.at1 (by simp [or_left_comm])
theorem St.to3 (h : St w0 w (u :: r :: s :: t :: rs)) : St w0 w (r :: s :: t :: u :: rs) := h.at1.under St.to2 (by intro z; simp only [List.mem_cons]; rintro (h|h|h|h) <;> simp [h])
theorem St.to4 (h : St w0 w (x :: r :: s :: t :: u :: rs)) : St w0 w (r :: s :: t :: u :: x :: rs) := h.at1.under St.to3 (by intro z; simp only [List.mem_cons]; rintro (h|h|h|h|h) <;> simp [h])
theorem St.to5 (h : St w0 w (y :: r :: s :: t :: u :: x :: rs)) : St w0 w (r :: s :: t :: u :: x :: y :: rs) := h.at1.under St.to4 (by intro z; simp only [List.mem_cons]; rintro (h|h|h|h|h|h) <;> simp [h])

theorem Res.holds_same {w w' : World} {r : Res} (h : r.holds w) (he : ∀ b, r.blk = some b → w'.heap[b]? = w.heap[b]?) : r.holds w' := by
  unfold Res.holds at *
  rw [show r.look w' = r.look w from ?_]
  · exact h
  · unfold Res.look
    cases hb : r.blk with
    | none => rfl
    | some b => exact he b hb

/-- A step that writes, of what was there, at most the block k, which no resource has. -/
theorem St.kept : ∀ {rs : List Res} {k : Option Nat}, St w0 w rs → w.grownBy w' k → (∀ b, k = some b → w0.heap.size ≤ b) → (∀ z ∈ rs, z.blk = none ∨ z.blk ≠ k) → St w0 w' rs
  | [], k, h, hg, hk, _ => by
    have := grown_own (below_grown h none) hg hk
    exact grown_below this
  | r :: rs, k, h, hg, hk, hz => by
    obtain ⟨h1, h2, h3, hr⟩ := h
    refine ⟨Res.holds_same h1 fun b hb => ?_, fun b hb => ⟨(h2 b hb).1, Nat.lt_of_lt_of_le (h2 b hb).2 hg.size⟩, h3, St.kept hr hg hk fun z hz' => hz z (by simp [hz'])⟩
    refine hg.block b (h2 b hb).2 ?_
    rcases hz r (by simp) with e | e
    · rw [hb] at e; cases e
    · rw [← hb]; exact e
/-- The block of the first resource is written. -/
theorem St.turn {r' : Res} (h : St w0 w (r :: rs)) (hg : w.grownBy w' r.blk) (hr : r'.holds w') (hb : ∀ b, r'.blk = some b → r.blk = some b ∨ w.heap.size ≤ b) (hl : ∀ b, r'.blk = some b → b < w'.heap.size) : St w0 w' (r' :: rs) := by
  obtain ⟨h1, h2, h3, hs⟩ := h
  refine ⟨hr, fun b hb' => ⟨?_, hl b hb'⟩, fun z hz => ?_, hs.kept hg (fun b hb' => (h2 b hb').1) fun z hz => ?_⟩
  · rcases hb b hb' with e | e
    · exact (h2 b e).1
    · exact Nat.le_trans hs.size e
  · cases hb' : r'.blk with
    | none => exact .inl hb'
    | some b =>
      refine .inr ?_
      rcases hb b hb' with e | e
      · rw [hb', ← e]
        rcases h3 z hz with e' | e'
        · rw [e'] at e; cases e
        · exact e'
      · intro e'
        have := hs.blk_lt z hz b (by rw [← e', hb'])
        omega
  · rcases h3 z hz with e' | e'
    · rw [e']; cases hz' : z.blk with
      | none => exact .inl rfl
      | some b => exact .inr (by simp)
    · exact .inr (Ne.symm e')
/-- A resource that lies in a new block comes in. -/
theorem St.add {r : Res} (h : St w0 w rs) (hg : w.grownBy w' none) (hr : r.holds w') (hb : ∀ b, r.blk = some b → w.heap.size ≤ b ∧ b < w'.heap.size) : St w0 w' (r :: rs) := by
  have h1 : St w0 w (⟨none, fun _ => True⟩ :: rs) := ⟨trivial, by simp, fun z _ => .inl rfl, h⟩
  exact h1.turn hg hr (fun b hb' => .inr (hb b hb').1) (fun b hb' => (hb b hb').2)
theorem St.call (h : St w0 w rs) (hb : Below w.heap.size w w') : St w0 w' rs := h.kept (below_grown hb none) (by simp) fun z _ => by cases z.blk <;> simp
theorem St.alloc (h : St w0 w rs) (o : Obj) : St w0 (w.alloc o) (boxo w.heap.size o :: rs) :=
  h.add (World.grownBy_alloc w o none) (by simp only [Res.holds, Res.look, boxo, Option.bind_some]; exact heap_alloc_new w o) (by intro b hb; cases hb; simp)
theorem St.drew (h : St w0 w rs) : St w0 w.drew rs := h.kept (k := none) ⟨rfl, rfl, rfl, Nat.le_refl _, fun _ _ _ => rfl⟩ (by simp) fun z _ => by cases z.blk <;> simp
theorem St.drewN (h : St w0 w rs) (n : Nat) : St w0 (w.drewN n) rs := h.kept (k := none) ⟨rfl, rfl, rfl, Nat.le_refl _, fun _ _ _ => rfl⟩ (by simp) fun z _ => by cases z.blk <;> simp

theorem St.boxAt {b : Nat} {o : Obj} (h : St w0 w (boxo b o :: rs)) : w.heap[b]? = some o := h.1
theorem St.lt {b : Nat} {o : Obj} (h : St w0 w (boxo b o :: rs)) : w0.heap.size ≤ b ∧ b < w.heap.size := h.2.1 b rfl
theorem St.cells {b : Nat} {cs : Array Value} {ty : TypeId} (h : St w0 w (box b cs ty :: rs)) : (∀ o, w.cell? ⟨b, o, none⟩ = cs[o]?) ∧ ∀ o, w.frozen? ⟨b, o, none⟩ = false :=
  ⟨fun _ => cell_of_heap h.boxAt, fun _ => frozen_of_heap h.boxAt⟩
theorem St.set {b : Nat} {cs : Array Value} {ty : TypeId} (h : St w0 w (box b cs ty :: rs)) (o : Nat) (v : Value) : St w0 (w.setCell ⟨b, o, none⟩ v) (box b (cs.setIfInBounds o v) ty :: rs) :=
  h.turn (grown_put w ⟨b, o, none⟩ v) (by simp only [Res.holds, Res.look, boxo, Option.bind_some]; exact heap_set h.boxAt v) (fun _ h => .inl h) (by intro c hc; cases hc; have := h.lt; simp [World.setCell]; omega)

theorem row_own {base : Nat} {v : Value} {e : TypeId} {size n : Nat} {xs : List Value} (h : w.ownsRow base e size v n xs) : (row v e size n xs).holds w := by
  refine ⟨h.1, ?_⟩
  rcases h.2 with h2 | ⟨g, cap, cur, rfl, h3, h4, h5⟩
  · exact .inl h2
  · exact .inr ⟨g, cap, cur, rfl, h4, h5⟩
theorem St.own {v : Value} {e : TypeId} {size n : Nat} {xs : List Value} (h : St w0 w (row v e size n xs :: rs)) : w.ownsRow w0.heap.size e size v n xs := by
  obtain ⟨⟨h1, h2⟩, h3, _⟩ := h
  refine ⟨h1, ?_⟩
  rcases h2 with h2 | ⟨g, cap, cur, rfl, h4, h5⟩
  · exact .inl h2
  · exact .inr ⟨g, cap, cur, rfl, (h3 g rfl).1, h4, h5⟩
/-- A row that a call has made. -/
theorem St.fresh {base : Nat} {v : Value} {e : TypeId} {size n : Nat} {xs : List Value} (h : St w0 w rs) (hb : Below w.heap.size w w') (ho : w'.ownsRow base e size v n xs) (hbase : w.heap.size ≤ base) : St w0 w' (row v e size n xs :: rs) :=
  h.add (below_grown hb none) (row_own ho) fun b hb' => by have := ho.lt b hb'; omega
theorem St.nilRow (h : St w0 w rs) (e : TypeId) (size : Nat) : St w0 w (row (.slice none 0 0) e size 0 [] :: rs) :=
  h.add (grown_refl w none) (row_own (World.ownsRow_nil w 0 e size)) (by simp [row, Value.ownBlock])
theorem St.madeRow {base : Nat} {cs : Array Value} {e : TypeId} (h : St w0 w (box base cs e :: rs)) (size cap : Nat) (hs : cs.size = cap * size) (hm : cap ≤ maxLen) (n : Nat) (hn : n ≤ cap) : St w0 w (row (.slice (some ⟨base, 0, none⟩) n cap) e size n (cs.toList.take (n * size)) :: rs) := by
  refine h.turn (grown_refl w _) ?_ (fun _ h => .inl h) (fun b hb => ?_)
  · refine ⟨?_, .inr ⟨base, cap, cs, rfl, h.boxAt, hn, hm, hs, rfl⟩⟩
    rw [List.length_take, Array.length_toList, hs]
    exact Nat.min_eq_left (Nat.mul_le_mul_right _ hn)
  · cases hb; exact h.lt.2
/-- What append leaves of a row, the elements having been laid into a block of their own. -/
theorem St.app {W : World} {v : Value} {e : TypeId} {size n n' : Nat} {xs xs' : List Value} {base g cap : Nat} (h : St w0 w (row v e size n xs :: rs)) (hW : w.grownBy W none)
    (hown : w'.ownsRow base e size (.slice (some ⟨g, 0, none⟩) n' cap) n' xs') (hg : W.grownBy w' v.ownBlock) (hat : v.ownBlock = some g ∨ g = W.heap.size) (hl : g < w'.heap.size) : St w0 w' (row (.slice (some ⟨g, 0, none⟩) n' cap) e size n' xs' :: rs) := by
  have h2 : St w0 W (row v e size n xs :: rs) := h.kept hW (by simp) fun z _ => by cases z.blk <;> simp
  refine h2.turn hg (row_own hown) (fun b hb => ?_) (fun b hb => ?_)
  · cases hb
    rcases hat with e | e
    · exact .inl e
    · exact .inr (by rw [e]; exact Nat.le_refl _)
  · cases hb; exact hl
/-- The first resource is written, and a row is made. -/
theorem St.turnFresh {r' : Res} {base : Nat} {v : Value} {e : TypeId} {size n : Nat} {xs : List Value} (h : St w0 w (r :: rs)) (hg : w.grownBy w' r.blk) (hr : r'.holds w') (hb : r'.blk = r.blk) (ho : w'.ownsRow base e size v n xs) (hbase : w.heap.size ≤ base) : St w0 w' (row v e size n xs :: r' :: rs) := by
  have k1 : St w0 w' (r' :: rs) := h.turn hg hr (fun c hc => .inl (by rw [← hb]; exact hc)) (fun c hc => Nat.lt_of_lt_of_le (h.2.1 c (by rw [← hb]; exact hc)).2 hg.size)
  refine ⟨row_own ho, fun c hc => ?_, fun z hz => ?_, k1⟩
  · have := ho.lt c hc
    have := h.size
    omega
  · cases hc : v.ownBlock with
    | none => exact .inl hc
    | some c =>
      refine .inr fun e => ?_
      have h1 := (ho.lt c hc).1
      have h2 : z.blk = some c := by rw [← e]; exact hc
      have h3 : c < w.heap.size := by
        rcases List.mem_cons.1 hz with rfl | hz
        · exact (h.2.1 c (by rw [← hb]; exact h2)).2
        · exact h.drop.blk_lt z hz c h2
      omega
theorem St.rdAt {b m : Nat} (h : St w0 w (rd w0 b m :: rs)) : ∃ s, Rd w b s m ∧ ∀ w' M, Rd w' b s M → (rd w0 b M).holds w' := by
  obtain ⟨a, n, cap, p, h1, h2, h3, h4⟩ := h.1
  have hx : ∀ x, a = some x → n ≠ 0 → x.block < b := fun x hx hn => by
    rcases h4 with h4 | ⟨c, off, rfl, hc⟩
    · exact absurd h4 hn
    · cases hx
      obtain ⟨z, _, hz⟩ := hc 0 (by omega)
      have := lt_of_cell hz
      have := (h.2.1 b rfl).1
      show c < b
      omega
  refine ⟨_, ⟨a, n, cap, p, rfl, h1, h2, h3, h4.grown (below_grown h.below none) (by simp), hx⟩, ?_⟩
  rintro w' M ⟨a', n', cap', p', e, k1, k2, k3, _⟩
  cases e
  exact ⟨a, n, cap, p', k1, k2, k3, h4⟩
theorem St.rdMono {b m m' : Nat} (h : St w0 w (rd w0 b m :: rs)) (hm : m ≤ m') : St w0 w (rd w0 b m' :: rs) := by
  obtain ⟨⟨a, n, cap, p, h1, h2, h3⟩, k⟩ := h
  exact ⟨⟨a, n, cap, p, h1, Nat.le_trans h2 hm, h3⟩, k⟩
theorem St.ints {v : Value} {xs : List Int} (h : St w0 w (row v 3 1 xs.length (xs.map (Value.int .i64)) :: rs)) : ∃ a cap, v = .slice a xs.length cap ∧ IntsAt w a xs := own_form h.own
end

theorem St.rowSet {w0 w : World} {rs : List Res} {g n cap size : Nat} {e : TypeId} {xs : List Value} (h : St w0 w (row (.slice (some ⟨g, 0, none⟩) n cap) e size n xs :: rs)) (j : Nat) (u : Value) : St w0 (w.setCell ⟨g, j, none⟩ u) (row (.slice (some ⟨g, 0, none⟩) n cap) e size n (xs.set j u) :: rs) :=
  h.turn (h.own.stored j u).2 (row_own (h.own.stored j u).1) (fun _ h => .inl h) (fun b hb => by cases hb; exact ((h.own.stored j u).1.lt g rfl).2)


/-- These cells lie from a on. -/
def CellsAt (w : World) (a : Option Addr) (cs : List Value) : Prop :=
  cs = [] ∨ ∃ b off, a = some ⟨b, off, none⟩ ∧ ∀ j, j < cs.length → w.cell? ⟨b, off + j, none⟩ = cs[j]?
theorem CellsAt.below {w w' : World} {a : Option Addr} {cs : List Value} (h : CellsAt w a cs) (hb : Below w.heap.size w w') : CellsAt w' a cs := by
  rcases h with h | ⟨b, off, rfl, hc⟩
  · exact .inl h
  · refine .inr ⟨b, off, rfl, fun j hj => ?_⟩
    have h1 := hc j hj
    rw [List.getElem?_eq_getElem hj] at h1
    rw [hb.cell (p := ⟨b, off + j, none⟩) (lt_of_cell h1), hc j hj]
theorem CellsAt.drewN {w : World} {a : Option Addr} {cs : List Value} (h : CellsAt w a cs) (n : Nat) : CellsAt (w.drewN n) a cs := h.below ⟨rfl, rfl, rfl, Nat.le_refl _, fun _ _ => rfl⟩
theorem own_cells {w : World} {base : Nat} {v : Value} {e : TypeId} {size n : Nat} {xs : List Value} (h : w.ownsRow base e size v n xs) : ∃ a cap, v = .slice a n cap ∧ CellsAt w a xs := by
  rcases h.2 with ⟨h1, h2⟩ | ⟨g, cap, cur, h1, _⟩
  · subst h2
    refine ⟨none, 0, h1, .inl (List.eq_nil_of_length_eq_zero ?_)⟩
    have := h.1; omega
  · subst h1
    refine ⟨_, cap, rfl, .inr ⟨g, 0, rfl, fun j hj => ?_⟩⟩
    rw [Nat.zero_add, h.cellAt j (by have := h.1; omega)]
theorem own_cellsR {w : World} {base : Nat} {a : Option Addr} {e : TypeId} {size n cap : Nat} {xs : List Value} (h : w.ownsRow base e size (.slice a n cap) n xs) : CellsAt w a xs := by
  obtain ⟨a', cap', e, h'⟩ := own_cells h
  cases e
  exact h'

theorem St.ne {w0 w : World} {rs : List Res} {a b : Nat} {o o' : Obj} (h : St w0 w (boxo a o :: boxo b o' :: rs)) : a ≠ b := by
  rcases h.2.2.1 (boxo b o') (by simp) with h | h
  · cases h
  · exact fun e => h (by rw [e]; rfl)

/-- What a function that makes a slice of ints hands back. -/
def MadeInts (w : World) (ys : List Int) (e : Ending) (w' : World) : Prop :=
  ∃ (a : Option Addr) (cap : Nat), e = .returned (.slice a ys.length cap) ∧ w'.ownsRow w.heap.size 3 1 (.slice a ys.length cap) ys.length (ys.map (Value.int .i64)) ∧ Below w.heap.size w w'
theorem madeInts {w w' : World} {v : Value} {ys zs : List Int} (h : St w w' [row v 3 1 ys.length (ys.map (Value.int .i64))]) (he : zs = ys) : MadeInts w zs (.returned v) w' := by
  subst he
  obtain ⟨a, cap, rfl, _⟩ := h.ints
  exact ⟨a, cap, rfl, h.own, h.below⟩


end Go.Proofs.YtebklbncfcdkmaaDoor
