
/-
  The walks of idValid and l6In. No statement is proved here.
-/
import Derived.Test.YtebklbncfcdkmaaDoorK2
namespace Go.Proofs.YtebklbncfcdkmaaDoor
open Go.RowKit

set_option maxHeartbeats 400000 in
theorem idValid_calls (n : Int) (w : World) :
    Calls Tryd.prog 87 #[.int .i64 n] w fun e w' => e = .returned (.bool (decide (1 ≤ n ∧ n ≤ 99))) ∧ w = w' := by
  by_cases h1 : 1 ≤ n
  · go_enter Tryd.func87, Tryd.ntmps87
    go_wp2
    go_ret
    simp; omega
  · go_enter Tryd.func87, Tryd.ntmps87
    go_wp2
    go_ret
    simp; omega

theorem idValid_yes (n : Int) (w : World) (h : 1 ≤ n ∧ n ≤ 99) :
    Calls Tryd.prog 87 #[.int .i64 n] w fun e w' => e = .returned (.bool true) ∧ w = w' :=
  (idValid_calls n w).mono fun e w' ⟨h1, h2⟩ => ⟨by rw [h1, decide_eq_true h], h2⟩
theorem idValid_no (n : Int) (w : World) (h : ¬ (1 ≤ n ∧ n ≤ 99)) :
    Calls Tryd.prog 87 #[.int .i64 n] w fun e w' => e = .returned (.bool false) ∧ w = w' :=
  (idValid_calls n w).mono fun e w' ⟨h1, h2⟩ => ⟨by rw [h1, decide_eq_false h], h2⟩

set_option maxHeartbeats 400000 in
theorem l6In_calls (n a b : Int) (w : World) :
    Calls Tryd.prog 64 #[.int .i64 n, .int .i64 a, .int .i64 b] w fun e w' => e = .returned (.bool (decide (a ≤ n ∧ n ≤ b))) ∧ w = w' := by
  by_cases h1 : a ≤ n
  · go_enter Tryd.func64, Tryd.ntmps64
    go_wp2
    go_ret
    simp; omega
  · go_enter Tryd.func64, Tryd.ntmps64
    go_wp2
    go_ret
    simp; omega
theorem l6In_yes (n a b : Int) (w : World) (h : a ≤ n ∧ n ≤ b) :
    Calls Tryd.prog 64 #[.int .i64 n, .int .i64 a, .int .i64 b] w fun e w' => e = .returned (.bool true) ∧ w = w' :=
  (l6In_calls n a b w).mono fun e w' ⟨h1, h2⟩ => ⟨by rw [h1, decide_eq_true h], h2⟩
theorem l6In_no (n a b : Int) (w : World) (h : ¬ (a ≤ n ∧ n ≤ b)) :
    Calls Tryd.prog 64 #[.int .i64 n, .int .i64 a, .int .i64 b] w fun e w' => e = .returned (.bool false) ∧ w = w' :=
  (l6In_calls n a b w).mono fun e w' ⟨h1, h2⟩ => ⟨by rw [h1, decide_eq_false h], h2⟩

end Go.Proofs.YtebklbncfcdkmaaDoor
