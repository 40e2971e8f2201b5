
/-
  The walk of FnMoved.
-/
import Derived.Test.YtcnanhjagefmjaaX12
import Derived.Test.YtcnanhjagefmjaaX13
namespace Go.Proofs.Ytcnanhjagefmjaa.fnMoved
open Go.RowKit Go.Proofs.Ytcnanhjagefmjaa

set_option maxHeartbeats 4000000 in
theorem walk (a0 : Option Addr) (len0 cap0 : Nat) (z0 : List Int) (w : World) (w0 : IsRow .u8 w a0 len0 cap0 z0) :
    Calls Try.prog 4 #[.slice a0 len0 cap0] w fun e w' => e = .returned (.bool true) ∧ Below w.heap.size w w' := by
  have hle := w0.le
  have hby := w0.bytes
  clear w0
  by_cases hbig : len0 ≤ 1048576
  · go_enter Try.func4, Try.ntmps4
    go_wp2_with fail
    with_reducible refine (drawPlaceMoved_calls _ _ _ _ hle.1 hle.2 hby).mono ?_
    rintro e w1 ⟨p, a1, a2, c1, c2, xs, ys, m, rfl, hx8, hy8, s1⟩
    go_wp2_with fail
    with_reducible refine (placeMoved_calls p a1 c1 xs a2 c2 ys m w1 (by omega) (by omega) (own_intsR s1.own) (own_intsR s1.at1.own)).mono ?_
    rintro e w2 ⟨rfl, hb2⟩
    have s2 := s1.call hb2
    go_wp2_with fail
    with_reducible refine (specPlaceMoved_calls p a1 c1 xs a2 c2 ys m w2 (by omega) (by omega) (own_intsR s2.own) (own_intsR s2.at1.own)).mono ?_
    rintro e w3 ⟨rfl, hb3⟩
    have s3 := s2.call hb3
    clear s1 s2 hb2 hb3
    by_cases hneg : movedR p xs ys m < 0
    · generalize movedR p xs ys m = r at *
      go_wp2_with fail
      go_ret
      exact ⟨rfl, s3.below⟩
    · have h0 : 0 ≤ movedR p xs ys m := by omega
      have h1 := moved_le h0
      have C1 := Lib.hid (placeMoved_calls p a1 c1 xs a1 c1 xs m w3 (by omega) (by omega) (own_intsR s3.own) (own_intsR s3.own))
      rw [moved_self (moved_oks h0).1] at C1
      have C2 := Lib.hid (fun w4 (s4 : St w w4 [row (.slice a1 xs.length c1) 3 1 xs.length (xs.map (Value.int .i64)), row (.slice a2 ys.length c2) 3 1 ys.length (ys.map (Value.int .i64))]) => placeMoved_calls p a2 c2 ys a1 c1 xs m w4 (by omega) (by omega) (own_intsR s4.at1.own) (own_intsR s4.own))
      rw [moved_swap] at C2
      generalize movedR p xs ys m = r at *
      have hd0 : decide (r < 0) = false := decide_eq_false hneg
      have hd1 : decide (r ≤ m) = true := decide_eq_true h1
      have hd2 : decide (0 ≤ r) = true := decide_eq_true h0
      go_wp2_with fail
      with_reducible refine C1.out.mono ?_
      rintro e w4 ⟨rfl, hb4⟩
      have s4 := s3.call hb4
      clear s3 hb4 C1
      go_wp2_with fail
      with_reducible refine (C2.out _ s4).mono ?_
      rintro e w5 ⟨rfl, hb5⟩
      have s5 := s4.call hb5
      clear s4 hb5 C2
      go_wp2_with fail
      go_ret
      exact ⟨rfl, s5.below⟩
  · go_enter Try.func4, Try.ntmps4
    go_wp2_with fail
    go_ret
    exact ⟨rfl, Below.refl _ _⟩

end Go.Proofs.Ytcnanhjagefmjaa.fnMoved
