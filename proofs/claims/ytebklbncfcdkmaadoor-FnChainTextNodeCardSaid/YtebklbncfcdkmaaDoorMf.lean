
/-
  Three operations that may come up; facts that a frame's resource gives wherever it stands. No program, no statement.
-/
import Derived.Test.YtebklbncfcdkmaaDoorC10
namespace Go.Proofs.YtebklbncfcdkmaaDoor
open Go.RowKit
namespace Mix
section
variable {P : Program} {ops : Array Oper} {Q : Exit → Act → World → Prop} {S : World → Prop} {last : Nat}
theorem fork3 {i j k : Nat} {oi oj ok : Oper} {fuel : Nat} {listed : Array Bool} {a : Act} {w : World} (hr : Region.ready .any ops listed = [i, j, k]) (hoi : ops[i]? = some oi) (hgi : oi.guard = none) (hoj : ops[j]? = some oj) (hgj : oj.guard = none) (hok : ops[k]? = some ok) (hgk : ok.guard = none)
    (h1 : oi.wp P a w (fun a' w' => (i = last ∨ S w') ∧ wpE P ops Q S last fuel (listed.setIfInBounds i true) a' w') Q)
    (h2 : oj.wp P a w (fun a' w' => (j = last ∨ S w') ∧ wpE P ops Q S last fuel (listed.setIfInBounds j true) a' w') Q)
    (h3 : ok.wp P a w (fun a' w' => (k = last ∨ S w') ∧ wpE P ops Q S last fuel (listed.setIfInBounds k true) a' w') Q) : wpE P ops Q S last (fuel + 1) listed a w := by
  refine ⟨fun h0 => (by rw [hr] at h0; cases h0), fun x hx => ?_⟩
  rw [hr] at hx
  simp only [List.mem_cons, List.not_mem_nil, or_false] at hx
  rcases hx with rfl | rfl | rfl
  · unfold wpOp
    simp only [hoi]
    rw [if_pos (by simp [Region.wanted, hgi])]
    exact .inl h1
  · unfold wpOp
    simp only [hoj]
    rw [if_pos (by simp [Region.wanted, hgj])]
    exact .inl h2
  · unfold wpOp
    simp only [hok]
    rw [if_pos (by simp [Region.wanted, hgk])]
    exact .inl h3
end
end Mix
theorem St.boxIn {w0 w : World} {rs : List Res} {V : Nat} {cs : Array Value} {t : TypeId} (h : St w0 w rs) (hr : box V cs t ∈ rs) (o : Nat) {v : Value} (hv : cs[o]? = some v) : w.cell? ⟨V, o, none⟩ = some v := by
  rw [cell_of_heap (h.pull hr).boxAt]; exact hv
theorem St.intsIn {w0 w : World} {rs : List Res} {a : Option Addr} {n cap : Nat} {xs : List Int} (h : St w0 w rs) (hr : row (.slice a n cap) 3 1 n (xs.map (Value.int .i64)) ∈ rs) (hn : n = xs.length) : IntsAt w a xs := by
  subst hn
  exact own_intsR (h.pull hr).own
theorem IntsAt.first {w : World} {b off : Nat} {xs : List Int} {x : Int} (h : IntsAt w (some ⟨b, off, none⟩) xs) (hl : 0 < xs.length) (hx : xs.getD 0 0 = x) : w.cell? ⟨b, off, none⟩ = some (.int .i64 x) := by
  subst hx
  rcases h with rfl | ⟨b', off', e, hc⟩
  · simp at hl
  · cases e; exact hc 0 hl
theorem St.oneInt {w0 w : World} {rs : List Res} {b : Nat} {x : Int} {t : TypeId} (h : St w0 w rs) (hr : box b #[.int .i64 x] t ∈ rs) : IntsAt w (some ⟨b, 0, none⟩) [x] := .inr ⟨b, 0, rfl, fun j hj => by
  obtain rfl : j = 0 := by simpa using hj
  exact h.boxIn hr 0 rfl⟩

end Go.Proofs.YtebklbncfcdkmaaDoor
