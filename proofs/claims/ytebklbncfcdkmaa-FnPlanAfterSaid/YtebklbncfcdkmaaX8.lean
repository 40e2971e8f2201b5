
/-
  The walks of what is missing in a list, and of PlaceMoved. No statement is proved here.
-/
import Derived.Test.YtebklbncfcdkmaaX7
namespace Go.Proofs.Ytebklbncfcdkmaa
open Go.RowKit

/-- The numbers that are not among others. -/
def goneP (xs ys : List Int) : List Int := xs.filter fun x => !decide (x ∈ ys)
theorem goneP_snoc_in {xs ys : List Int} {x : Int} (h : x ∈ ys) : goneP (xs ++ [x]) ys = goneP xs ys := by simp [goneP, h]
theorem goneP_snoc_out {xs ys : List Int} {x : Int} (h : x ∉ ys) : goneP (xs ++ [x]) ys = goneP xs ys ++ [x] := by simp [goneP, h]
theorem goneP_len (xs ys : List Int) : (goneP xs ys).length ≤ xs.length := List.length_filter_le _ _
theorem take_snocI {xs : List Int} {k : Nat} (h : k < xs.length) : xs.take (k + 1) = xs.take k ++ [xs[k]] := by rw [List.take_add_one, List.getElem?_eq_getElem h]; rfl

/-- A set of bits of the call's own. -/
def bitsR (b : Nat) (xs : List Int) : Res :=
  ⟨some b, fun o => ∃ x y : Nat, o = some (.cells #[.int .u64 x, .int .u64 y] 60 (0, 0)) ∧ x < 18446744073709551616 ∧ y < 18446744073709551616 ∧
    ∀ n : Nat, 1 ≤ n → n ≤ 99 → (if n < 64 then x.testBit n else y.testBit (n - 64)) = decide ((n : Int) ∈ xs)⟩
theorem St.bits {w0 w : World} {rs : List Res} {b : Nat} {xs : List Int} (h : St w0 w (bitsR b xs :: rs)) : BitsAt w b xs := h.1
theorem St.newBits {w0 w : World} {rs : List Res} {b : Nat} (h : St w0 w (box b #[.int .u64 0, .int .u64 0] 60 :: rs)) : St w0 w (bitsR b [] :: rs) :=
  ⟨⟨0, 0, h.boxAt, by omega, by omega, fun n _ _ => by simp⟩, h.2⟩
theorem addBits_st {w0 w : World} {rs : List Res} (b : Nat) (xs : List Int) (n : Int) (h : St w0 w (bitsR b xs :: rs)) :
    Calls Try.prog 26 #[.pointer (some ⟨b, 0, none⟩), .int .i64 n] w fun e w' => e = .returned (.tuple #[]) ∧ St w0 w' (bitsR b (xs ++ [n]) :: rs) :=
  (add_calls b xs n w h.bits).mono fun e w' ⟨h1, h2, h3⟩ => ⟨h1, h.turn (r' := bitsR b (xs ++ [n])) h3 h2 (fun _ h => .inl h) (fun c hc => by
    cases hc
    obtain ⟨x, y, hh, _⟩ := h2
    exact (Array.getElem?_eq_some_iff.1 hh).1)⟩

set_option maxHeartbeats 4000000 in
theorem without_calls (a : Option Addr) (cap : Nat) (xs : List Int) (b : Option Addr) (cap' : Nat) (ys : List Int) (w : World) (hm : xs.length ≤ 100) (hm' : ys.length ≤ 100) (hx : IntsAt w a xs) (hy : IntsAt w b ys) (hv : ∀ x ∈ xs, 1 ≤ x ∧ x ≤ 99) :
    Calls Try.prog 15 #[.slice a xs.length cap, .slice b ys.length cap'] w (MadeInts w (goneP xs ys)) := by
  have s1 := ((St.start w).alloc (.cells #[.int .u64 0, .int .u64 0] 60)).newBits
  have HV := Lib.hid hv
  clear hv
  go_enter Try.func15, Try.ntmps15
  go_wp2_with fail
  generalize hw1 : w.alloc (.cells #[.int .u64 0, .int .u64 0] 60 (0, 0)) = w1 at *
  generalize w.heap.size = B at s1
  clear hw1
  go_loopw [13] (fun i wr => ∃ (k : Nat), k ≤ ys.length ∧ i = .int .i64 k ∧ St w wr [bitsR B (ys.take k)]) (fun i _ => ys.length - (intOf i).toNat)
  case atStart => exact ⟨0, Nat.zero_le _, rfl, s1⟩
  case round =>
    clear s1
    obtain ⟨k, hk, rfl, s2⟩ := hrel
    by_cases hlt : k < ys.length
    · rcases hy.below s2.below with rfl | ⟨bk, off, rfl, hc⟩
      · simp at hlt
      have hcell : wr.cell? ⟨bk, off + k, none⟩ = some (.int .i64 ys[k]) := by
        have := hc k hlt
        simpa [hlt] using this
      have i1 : (0 : Int) ≤ (k : Int) := by omega
      have i2 : (k : Int) < (ys.length : Int) := by omega
      have AD := Lib.hid (addBits_st B (ys.take k) ys[k] s2)
      rw [← take_snocI hlt] at AD
      clear hc s2
      generalize ys[k] = y at *
      go_wp2_with fail
      with_reducible refine AD.out.mono ?_
      rintro e w2 ⟨rfl, s3⟩
      go_wp2_with fail
      go_roundw
      case rel => exact ⟨k + 1, hlt, by go_num, s3⟩
      case measure => simp [intOf]; omega
    · rw [List.take_of_length_le (by omega)] at s2
      have s3 := s2.nilRow 3 1
      clear s2
      go_wp2_with fail
      go_loopw [5, 22] (fun v i wr => ∃ (k : Nat), k ≤ xs.length ∧ i = .int .i64 k ∧ St w wr [row v 3 1 (goneP (xs.take k) ys).length ((goneP (xs.take k) ys).map (Value.int .i64)), bitsR B ys]) (fun _ i _ => xs.length - (intOf i).toNat)
      case atStart => exact ⟨0, Nat.zero_le _, rfl, s3⟩
      case round =>
        clear s3
        obtain ⟨k, hk, rfl, s2⟩ := hrel
        by_cases hlt : k < xs.length
        · rcases hx.below s2.below with rfl | ⟨bk, off, rfl, hc⟩
          · simp at hlt
          have hcell : wr.cell? ⟨bk, off + k, none⟩ = some (.int .i64 xs[k]) := by
            have := hc k hlt
            simpa [hlt] using this
          have i1 : (0 : Int) ≤ (k : Int) := by omega
          have i2 : (k : Int) < (xs.length : Int) := by omega
          have TS := Lib.hid (take_snocI hlt)
          have HX := HV.out xs[k] (List.getElem_mem hlt)
          have hgl : (goneP (xs.take k) ys).length ≤ 100 := by
            have := goneP_len (xs.take k) ys
            simp at this; omega
          clear hc
          generalize xs[k] = x at *
          by_cases hin : x ∈ ys
          · have HAS := Lib.hid (has_yes B ys x wr s2.drop.bits HX hin)
            have GO := Lib.hid (show goneP (xs.take (k + 1)) ys = goneP (xs.take k) ys by rw [TS.out, goneP_snoc_in hin])
            clear hin
            go_wp2_with fail
            with_reducible refine HAS.out.mono ?_
            rintro e w' ⟨rfl, rfl⟩
            go_wp2_with fail
            go_roundw
            case rel => exact ⟨k + 1, hlt, by go_num, by rw [GO.out]; exact s2⟩
            case measure => simp [intOf]; omega
          · have HAS := Lib.hid (has_no B ys x wr s2.drop.bits hin)
            have GO := Lib.hid (show goneP (xs.take (k + 1)) ys = goneP (xs.take k) ys ++ [x] by rw [TS.out, goneP_snoc_out hin])
            clear hin
            generalize goneP (xs.take k) ys = zs at *
            have o3 := s2.own
            have lR := s2.size
            go_wp2_with fail
            with_reducible refine HAS.out.mono ?_
            rintro e w' ⟨rfl, rfl⟩
            go_wp2_with ((at_builtin; refine list_app elem_int (by rfl) _ _ (by rfl) w.heap.size u5 zs.length (zs.map (Value.int .i64)) (by rfl) wr.heap.size 1 1 (by rfl) #[.int .i64 x] 3 (0, 0) (by rfl) (by simp [Value.oneCell']) (by omega) (by omega) (by omega) (heap_alloc_new wr _) (o3.alloc _) (by simp; omega) ?_); intro gg cap3 w7 hown hgrow hat hl)
            have s7 := s2.app (World.grownBy_alloc wr _ none) hown hgrow hat hl
            clear hown hgrow hat hl s2 o3
            go_wp2_with fail
            go_roundw
            case rel => exact ⟨k + 1, hlt, by go_num, by rw [GO.out]; simpa using s7⟩
            case measure => simp [intOf]; omega
        · rw [List.take_of_length_le (by omega)] at s2
          obtain ⟨va, vc, rfl, _⟩ := s2.ints
          have FIN := Lib.hid (show MadeInts w (goneP xs ys) (.returned (.slice va (goneP xs ys).length vc)) wr from ⟨va, vc, rfl, s2.own, s2.below⟩)
          clear s2
          go_wp2_with fail
          go_ret
          exact FIN.out

end Go.Proofs.Ytebklbncfcdkmaa
