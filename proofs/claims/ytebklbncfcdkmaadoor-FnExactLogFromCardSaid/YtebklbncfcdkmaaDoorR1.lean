
/-
  Picks and reads, told by resources. No statement is proved here.
-/
import Derived.Test.YtebklbncfcdkmaaDoorD1
import Derived.Test.YtebklbncfcdkmaaDoorSt
namespace Go.Proofs.YtebklbncfcdkmaaDoor
open Go.RowKit

theorem rd_bytes {w0 w : World} {rs : List Res} {b m : Nat} (h : St w0 w (rd w0 b m :: rs)) : ∃ (a : Option Addr) (n cap p : Nat), w.heap[b]? = some (.cells #[.slice a n cap, .int .i64 p] 95 (0, 0)) ∧ p ≤ m ∧ n ≤ 2000 ∧ BytesAt w0 a n ∧ BytesAt w a n ∧ ∀ x, a = some x → n ≠ 0 → x.block < b := by
  obtain ⟨a, n, cap, p, h1, h2, h3, h4⟩ := h.1
  refine ⟨a, n, cap, p, h1, h2, h3, h4, h4.grown (below_grown h.below none) (by simp), fun x hx hn => ?_⟩
  rcases h4 with h4 | ⟨c, off, rfl, hc⟩
  · exact absurd h4 hn
  · cases hx
    obtain ⟨z, _, hz⟩ := hc 0 (by omega)
    have := lt_of_cell hz
    have := (h.2.1 b rfl).1
    show c < b
    omega
/-- A pick, told by resources. -/
theorem pick_st {w0 w : World} {rs : List Res} (b m : Nat) (n : Int) (h : St w0 w (rd w0 b m :: rs)) (hm : m ≤ 1000000) (hn : n ≤ 1000000) :
    Calls Tryd.prog 61 #[.pointer (some ⟨b, 0, none⟩), .int .i64 n] w fun e w' => ∃ k : Int, e = .returned (.int .i64 k) ∧ 0 ≤ k ∧ (1 ≤ n → k < n) ∧ St w0 w' (rd w0 b (m + 1) :: rs) := by
  obtain ⟨a, l, cap, p, h1, h2, h3, h4, h5, h6⟩ := rd_bytes h
  refine (pick_core b m n w a l cap p h1 h2 h3 h5 h6 hm hn).mono ?_
  rintro e w' ⟨k, rfl, k0, k1, hh, hg⟩
  refine ⟨k, rfl, k0, k1, h.turn (r' := rd w0 b (m + 1)) hg ⟨a, l, cap, p + 1, hh, by omega, h3, h4⟩ (fun _ h => .inl h) (fun c hc => ?_)⟩
  cases hc
  exact lt_of_heap hh
theorem l6Open_st {w0 w : World} {rs : List Res} (a : Option Addr) (n cap : Nat) (h : St w0 w rs) (hc : n ≤ cap) (hm : cap ≤ maxLen) (hb : BytesAt w0 a n) :
    Calls Tryd.prog 48 #[.slice a n cap] w fun e w' => ∃ b, e = .returned (.pointer (some ⟨b, 0, none⟩)) ∧ St w0 w' (rd w0 b 0 :: rs) := by
  refine (l6Open_at a n cap w hc hm (hb.grown (below_grown h.below none) (by simp))).mono ?_
  rintro e w' ⟨rfl, ⟨k, hk, hk2, hh⟩, hb'⟩
  refine ⟨_, rfl, h.add (below_grown hb' none) ⟨a, k, cap, 0, hh, Nat.le_refl _, hk2, ?_⟩ (fun c hc => by cases hc; exact ⟨Nat.le_refl _, lt_of_heap hh⟩)⟩
  rcases hb with h0 | ⟨c, off, e, hcell⟩
  · exact .inl (by omega)
  · exact .inr ⟨c, off, e, fun j hj => hcell j (by omega)⟩

end Go.Proofs.YtebklbncfcdkmaaDoor
