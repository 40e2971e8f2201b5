
/-
  The walk of 'pick' and 'l6Open', by which every code is read. No statement is proved here.
-/
import Derived.Test.YtebklbncfcdkmaaDoorK
namespace Go.Proofs.YtebklbncfcdkmaaDoor
open Go.RowKit Go.BigFrame

def Picked (w : World) (b : Nat) (s : Value) (m : Nat) (n : Int) (e : Ending) (w' : World) : Prop :=
  ∃ k : Int, e = .returned (.int .i64 k) ∧ 0 ≤ k ∧ (1 ≤ n → k < n) ∧ Rd w' b s (m + 1) ∧ w.grownBy w' (some b)

/-- A pick, told in full: the reader's slice stays, its count goes on. -/
def PickedX (w : World) (b : Nat) (a : Option Addr) (l cap p : Nat) (n : Int) (e : Ending) (w' : World) : Prop :=
  ∃ k : Int, e = .returned (.int .i64 k) ∧ 0 ≤ k ∧ (1 ≤ n → k < n) ∧ w'.heap[b]? = some (.cells #[.slice a l cap, .int .i64 ((p : Int) + 1)] 95 (0, 0)) ∧ w.grownBy w' (some b)

theorem picked {w w' : World} {b : Nat} {n k : Int} {a : Option Addr} {l cap p : Nat} (hh : w.heap[b]? = some (.cells #[.slice a l cap, .int .i64 p] 95 (0, 0)))
    (hk : 0 ≤ k) (hn : 1 ≤ n → k < n) (hw : w'.heap = (w.setCell ⟨b, 1, none⟩ (.int .i64 ((p : Int) + 1))).heap) (ho : w'.os = w.os) (ht : w'.tape = w.tape) (hu : w'.output = w.output) : PickedX w b a l cap p n (.returned (.int .i64 k)) w' := by
  have hg : w.grownBy w' (some b) := by
    have := grown_set (grown_refl w (some b)) 1 (.int .i64 ((p : Int) + 1))
    exact ⟨ho, ht, hu, by rw [hw]; exact this.size, fun i hi hr => by rw [hw]; exact this.block i hi hr⟩
  refine ⟨k, rfl, hk, hn, ?_, hg⟩
  rw [hw, heap_set hh]
  simp

set_option maxHeartbeats 1000000 in
theorem pick_core (b m : Nat) (n : Int) (w : World) (a : Option Addr) (l cap p : Nat) (hh : w.heap[b]? = some (.cells #[.slice a l cap, .int .i64 p] 95 (0, 0))) (hp : p ≤ m) (hl : l ≤ 2000) (hb : BytesAt w a l) (ha : ∀ x, a = some x → l ≠ 0 → x.block < b) (hm : m ≤ 1000000) (hn : n ≤ 1000000) :
    Calls Tryd.prog 61 #[.pointer (some ⟨b, 0, none⟩), .int .i64 n] w (PickedX w b a l cap p n) := by
  have hc0 : w.cell? ⟨b, 0, none⟩ = some (.slice a l cap) := by rw [cell_of_heap hh]; rfl
  have hc1 : w.cell? ⟨b, 1, none⟩ = some (.int .i64 p) := by rw [cell_of_heap hh]; rfl
  have hf1 : w.frozen? ⟨b, 1, none⟩ = false := frozen_of_heap hh
  have hs0 : ∀ v, (w.setCell ⟨b, 1, none⟩ v).cell? ⟨b, 0, none⟩ = some (.slice a l cap) := fun v => by rw [World.cell?_setCell_other _ _ _ _ (by simp)]; exact hc0
  have hs1 : ∀ v, (w.setCell ⟨b, 1, none⟩ v).cell? ⟨b, 1, none⟩ = some v := fun v => World.cell?_setCell_same _ _ _ hc1
  by_cases h1 : n < 1
  · go_enter Tryd.func61, Tryd.ntmps61
    have HH := Lib.hid hh; clear hh
    go_wp2
    go_ret
    exact picked HH.out (by omega) (by omega) rfl rfl rfl rfl
  · by_cases h2 : l = 0
    · subst h2
      go_enter Tryd.func61, Tryd.ntmps61
      have HH := Lib.hid hh; clear hh
      go_wp2
      go_ret
      exact picked HH.out (by omega) (by omega) rfl rfl rfl rfl
    · rcases id hb with h | ⟨c, off, rfl, hcell⟩
      · exact absurd h h2
      have hne : b ≠ c := by have := ha _ rfl h2; simp at this; omega
      have hce : ∀ j, j < l → ∀ v, ∃ z : Nat, z < 256 ∧ (w.setCell ⟨b, 1, none⟩ v).cell? ⟨c, off + j, none⟩ = some (.int .u8 z) := fun j hj v => by
        obtain ⟨z, hz, hcz⟩ := hcell j hj
        exact ⟨z, hz, by rw [World.cell?_setCell_other _ _ _ _ (fun e => hne (congrArg Addr.block e))]; exact hcz⟩
      by_cases h3 : p < l
      · obtain ⟨z, hz, hcz⟩ := hce p h3 (.int .i64 ((p : Int) + 1))
        go_enter Tryd.func61, Tryd.ntmps61
        have HH := Lib.hid hh; clear hh hcell hce
        go_wp2
        go_ret
        have e1 := Int.emod_nonneg (z : Int) (show n ≠ 0 by omega)
        have e2 := Int.emod_lt_of_pos (z : Int) (show 0 < n by omega)
        exact picked HH.out e1 (fun _ => e2) rfl rfl rfl rfl
      · obtain ⟨x, hx, hcx⟩ := hce (p % l) (Nat.mod_lt _ (by omega)) (.int .i64 ((p : Int) + 1))
        obtain ⟨y, hy, hcy⟩ := hce ((p * 7 + 3) % l) (Nat.mod_lt _ (by omega)) (.int .i64 ((p : Int) + 1))
        have m1 : p % l < l := Nat.mod_lt _ (by omega)
        have m2 : (p * 7 + 3) % l < l := Nat.mod_lt _ (by omega)
        have q1 : 0 ≤ ((p : Int) * 7 + 3) % (l : Int) := Int.emod_nonneg _ (by omega)
        have q2 : ((p : Int) * 7 + 3) % (l : Int) < (l : Int) := Int.emod_lt_of_pos _ (by omega)
        have q3 : (((p : Int) * 7 + 3) % (l : Int)).toNat = (p * 7 + 3) % l := by
          rw [show ((p : Int) * 7 + 3) = ((p * 7 + 3 : Nat) : Int) by omega, ← Int.natCast_emod, Int.toNat_natCast]
        have d1 : 0 ≤ (p : Int) / (l : Int) := Int.ediv_nonneg (by omega) (by omega)
        have d2 : (p : Int) / (l : Int) ≤ p := Int.ediv_le_self _ (by omega)
        go_enter Tryd.func61, Tryd.ntmps61
        have HH := Lib.hid hh; clear hh hcell hce
        go_wp2
        go_quiet (fail)
        have hx1 := bits_nonneg ((x : Int) * 131 + (y : Int) * 1117 + (p : Int) * 29 + (p : Int) / (l : Int) * 53) (by omega) (by omega)
        go_wp2
        go_ret
        have e1 := Int.emod_nonneg (bits .xor .i64 ((x : Int) * 131 + (y : Int) * 1117 + (p : Int) * 29 + (p : Int) / (l : Int) * 53) (((x : Int) * 131 + (y : Int) * 1117 + (p : Int) * 29 + (p : Int) / (l : Int) * 53) / 64)) (show n ≠ 0 by omega)
        have e2 := Int.emod_lt_of_pos (bits .xor .i64 ((x : Int) * 131 + (y : Int) * 1117 + (p : Int) * 29 + (p : Int) / (l : Int) * 53) (((x : Int) * 131 + (y : Int) * 1117 + (p : Int) * 29 + (p : Int) / (l : Int) * 53) / 64)) (show 0 < n by omega)
        exact picked HH.out e1 (fun _ => e2) rfl rfl rfl rfl

theorem pick_calls (b m : Nat) {s : Value} (n : Int) (w : World) (hr : Rd w b s m) (hm : m ≤ 1000000) (hn : n ≤ 1000000) :
    Calls Tryd.prog 61 #[.pointer (some ⟨b, 0, none⟩), .int .i64 n] w (Picked w b s m n) := by
  obtain ⟨a, l, cap, p, hs, hh, hp, hl, hb, ha⟩ := hr
  refine (pick_core b m n w a l cap p hh hp hl hb ha hm hn).mono ?_
  rintro e w' ⟨k, rfl, h0, h1, h2, hg⟩
  exact ⟨k, rfl, h0, h1, ⟨a, l, cap, p + 1, hs, h2, by omega, hl, hb.grown hg (fun x hx h0 e => by have := ha x hx h0; cases e; omega), ha⟩, hg⟩

set_option maxHeartbeats 400000 in
theorem l6Open_calls (a : Option Addr) (n cap : Nat) (w : World) (hc : n ≤ cap) (hm : cap ≤ maxLen) (hb : BytesAt w a n) :
    Calls Tryd.prog 48 #[.slice a n cap] w fun e w' => e = .returned (.pointer (some ⟨w.heap.size, 0, none⟩)) ∧ (∃ s, Rd w' w.heap.size s 0) ∧ Below w.heap.size w w' := by
  unfold maxLen at hm
  have fin : ∀ k, k ≤ n → k ≤ 2000 → ∃ s, Rd (w.alloc (Obj.cells #[Value.slice a k cap, Value.int IntKind.i64 0] 95)) w.heap.size s 0 := by
    intro k hk hk2
    refine ⟨_, a, k, cap, 0, rfl, heap_alloc_new w _, Nat.le_refl _, hk2, ?_, ?_⟩
    · refine BytesAt.grown (r := none) ?_ (World.grownBy_alloc w _ none) (by simp)
      rcases hb with h0 | ⟨c, off, e, hcell⟩
      · exact .inl (by omega)
      · exact .inr ⟨c, off, e, fun j hj => hcell j (by omega)⟩
    · intro x hx h0
      rcases hb with h | ⟨c, off, e, hcell⟩
      · omega
      · obtain ⟨z, _, hz⟩ := hcell 0 (by omega)
        rw [hx] at e; cases e; exact lt_of_cell hz
  have HF := Lib.hid fin; clear fin
  by_cases h : n ≤ 2000
  · go_enter Tryd.func48, Tryd.ntmps48
    go_wp2
    go_ret
    exact ⟨rfl, HF.out n (Nat.le_refl _) h, (Below.refl _ _).alloc (Nat.le_refl _) _⟩
  · rcases hb with h0 | ⟨c, off, rfl, hcell⟩
    · omega
    go_enter Tryd.func48, Tryd.ntmps48
    have HC := Lib.hid hcell; clear hcell
    go_wp2
    go_ret
    exact ⟨rfl, HF.out 2000 (by omega) (by omega), (Below.refl _ _).alloc (Nat.le_refl _) _⟩

set_option maxHeartbeats 400000 in
theorem l6Open_at (a : Option Addr) (n cap : Nat) (w : World) (hc : n ≤ cap) (hm : cap ≤ maxLen) (hb : BytesAt w a n) :
    Calls Tryd.prog 48 #[.slice a n cap] w fun e w' => e = .returned (.pointer (some ⟨w.heap.size, 0, none⟩)) ∧ (∃ k, k ≤ n ∧ k ≤ 2000 ∧ w'.heap[w.heap.size]? = some (.cells #[.slice a k cap, .int .i64 0] 95 (0, 0))) ∧ Below w.heap.size w w' := by
  unfold maxLen at hm
  have HF := Lib.hid (fun k => heap_alloc_new w (Obj.cells #[Value.slice a k cap, Value.int IntKind.i64 0] 95))
  by_cases h : n ≤ 2000
  · go_enter Tryd.func48, Tryd.ntmps48
    go_wp2
    go_ret
    exact ⟨rfl, ⟨n, Nat.le_refl _, h, HF.out n⟩, (Below.refl _ _).alloc (Nat.le_refl _) _⟩
  · rcases hb with h0 | ⟨c, off, rfl, hcell⟩
    · omega
    go_enter Tryd.func48, Tryd.ntmps48
    have HC := Lib.hid hcell; clear hcell
    go_wp2
    go_ret
    exact ⟨rfl, ⟨2000, by omega, by omega, HF.out 2000⟩, (Below.refl _ _).alloc (Nat.le_refl _) _⟩

end Go.Proofs.YtebklbncfcdkmaaDoor
