
/-
  Sets of bits, told by resources. No statement is proved here.
-/
import Derived.Test.YtgpnbcdboofikaaV1
import Derived.Test.YtgpnbcdboofikaaSt
namespace Go.Proofs.Ytgpnbcdboofikaa
open Go.RowKit

theorem BitsAt.carry {w w' : World} {b : Nat} {xs : List Int} (h : BitsAt w b xs) (hk : ∀ o, w.heap[b]? = some o → w'.heap[b]? = some o) : BitsAt w' b xs := by
  obtain ⟨x, y, h1, h2⟩ := h
  exact ⟨x, y, hk _ h1, h2⟩
theorem BitsAt.lt {w : World} {b : Nat} {xs : List Int} (h : BitsAt w b xs) : b < w.heap.size := by
  obtain ⟨x, y, h1, h2⟩ := h
  exact lt_of_heap h1

def bits (b : Nat) (xs : List Int) : Res :=
  ⟨some b, fun o => ∃ x y : Nat, o = some (.cells #[.int .u64 x, .int .u64 y] 77 (0, 0)) ∧ x < 18446744073709551616 ∧ y < 18446744073709551616 ∧
    ∀ n : Nat, 1 ≤ n → n ≤ 99 → (if n < 64 then x.testBit n else y.testBit (n - 64)) = decide ((n : Int) ∈ xs)⟩

section
variable {w0 w : World} {rs : List Res}
theorem bits_iff {b : Nat} {xs : List Int} : (bits b xs).holds w ↔ BitsAt w b xs := Iff.rfl
theorem St.bitsAt {b : Nat} {xs : List Int} (h : St w0 w (bits b xs :: rs)) : BitsAt w b xs := h.1
end
theorem add_st {w0 w : World} {rs : List Res} (b : Nat) (xs : List Int) (n : Int) (h : St w0 w (bits b xs :: rs)) :
    Calls Try.prog 51 #[.pointer (some ⟨b, 0, none⟩), .int .i64 n] w fun e w' => e = .returned (.tuple #[]) ∧ St w0 w' (bits b (xs ++ [n]) :: rs) := by
  refine (add_calls b xs n w h.bitsAt).mono ?_
  rintro e w' ⟨rfl, hb, hg⟩
  exact ⟨rfl, h.turn hg hb (fun _ h => .inl h) (fun c hc => by cases hc; exact hb.lt)⟩


end Go.Proofs.Ytgpnbcdboofikaa
