
/-
  The walks of the scores, heap.Push and heap.Pop. No statement is proved here.
-/
import Derived.Test.YtebklbncfcdkmaaX4
namespace Go.Proofs.Ytebklbncfcdkmaa
open Go.RowKit

theorem score_num {p s : Int} (hp : 1 ≤ p ∧ p ≤ 99) (hs : 1 ≤ s ∧ s ≤ 99) : ∃ x y r : Int, 131 * p + 17 * s + 7 = x ∧ x * x = y ∧ (y + 3 * x) % 9973 = r ∧ (y + 3 * x).tmod 9973 = r ∧ scoreP p s = r ∧ 0 ≤ x ∧ x ≤ 20000 ∧ 0 ≤ y ∧ y ≤ 400000000 := by
  refine ⟨_, _, _, rfl, rfl, rfl, ?_, rfl, by omega, by omega, ?_, ?_⟩
  · rw [Int.tmod_eq_emod_of_nonneg]
    have : 0 ≤ (131 * p + 17 * s + 7) * (131 * p + 17 * s + 7) := Int.mul_nonneg (by omega) (by omega)
    omega
  · exact Int.mul_nonneg (by omega) (by omega)
  · have h1 : (131 * p + 17 * s + 7) * (131 * p + 17 * s + 7) ≤ 20000 * (131 * p + 17 * s + 7) := Int.mul_le_mul_of_nonneg_right (by omega) (by omega)
    omega

set_option maxHeartbeats 1000000 in
theorem placeScore_calls (p s : Int) (w : World) (hp : 1 ≤ p ∧ p ≤ 99) (hs : 1 ≤ s ∧ s ≤ 99) :
    Calls Try.prog 21 #[.int .i64 p, .int .i64 s] w fun e w' => e = .returned (.int .i64 (scoreP p s)) ∧ w = w' := by
  obtain ⟨x, y, r, e1, e2, e3, e4, e5, x0, x1, y0, y1⟩ := score_num hp hs
  rw [e5]
  have HP := Lib.hid (fun w => idValid_yes p w hp)
  have HS := Lib.hid (fun w => idValid_yes s w hs)
  obtain ⟨hp0, hp1⟩ := hp
  obtain ⟨hs0, hs1⟩ := hs
  clear e5
  go_enter Try.func21, Try.ntmps21
  go_wp2_with fail
  refine (HP.out _).mono ?_
  rintro e w' ⟨rfl, rfl⟩
  go_wp2_with fail
  refine (HS.out _).mono ?_
  rintro e w' ⟨rfl, rfl⟩
  go_wp2_with fail
  go_ret
  exact ⟨rfl, rfl⟩
set_option maxHeartbeats 1000000 in
theorem l22Score_calls (p s : Int) (w : World) (hp : 1 ≤ p ∧ p ≤ 99) (hs : 1 ≤ s ∧ s ≤ 99) :
    Calls Try.prog 37 #[.int .i64 p, .int .i64 s] w fun e w' => e = .returned (.int .i64 (scoreP p s)) ∧ w = w' := by
  obtain ⟨x, y, r, e1, e2, e3, e4, e5, x0, x1, y0, y1⟩ := score_num hp hs
  rw [e5]
  obtain ⟨hp0, hp1⟩ := hp
  obtain ⟨hs0, hs1⟩ := hs
  clear e5
  go_enter Try.func37, Try.ntmps37
  go_wp2_with fail
  go_ret
  exact ⟨rfl, rfl⟩

set_option maxHeartbeats 2000000 in
theorem heapPush_st {w0 w : World} {rs : List Res} (p : Int) (g : Nat) (v : Value) (l : List Int) (x : Int) (h : St w0 w (box g #[v] 48 :: row v 52 2 l.length (hcells p l) :: rs)) (hm : l.length ≤ 900) (hh : HeapN p l l.length) :
    Calls Try.prog 20 #[.iface 46 (.pointer (some ⟨g, 0, none⟩)), .iface 52 (.agg #[.int .i64 x, .int .i64 (scoreP p x)])] w fun e w' => e = .returned (.tuple #[]) ∧ ∃ (v' : Value) (m : List Int), m.Perm (l ++ [x]) ∧ HeapN p m m.length ∧ St w0 w' (box g #[v'] 48 :: row v' 52 2 m.length (hcells p m) :: rs) := by
  have mPush := fun v W fuel => finds_push fuel v W
  have iPush := enters_push
  have mLen := fun (a : Option Addr) (n cap : Nat) (W : World) (hW : W.cell? ⟨g, 0, none⟩ = some (.slice a n cap)) (fuel : Nat) => finds_len fuel g a n cap W hW
  have iLen := enters_len
  have UI := Lib.hid (up_start x hh)
  go_enter Try.func20, Try.ntmps20
  go_wp2_with fail
  refine (heapPush0_st p g v l x h (by omega)).mono ?_
  rintro e w1 ⟨v', rfl, s1⟩
  obtain ⟨a, cap, rfl, _⟩ := own_cells s1.drop.own
  have HN := Lib.hid (show (l ++ [x]).length = l.length + 1 by simp)
  rw [HN.out] at s1
  obtain ⟨c1, _⟩ := s1.cells
  have c1 := c1 0
  simp at c1
  have M1 := mLen _ _ _ w1 c1
  clear h mLen
  go_wp2_with fail
  refine (heapLen_calls a (l.length + 1) cap w1).mono ?_
  rintro e w' ⟨rfl, rfl⟩
  go_wp2_with fail
  refine (heapUp_st p g a cap (l.length + 1) l.length (l ++ [x]) HN.out s1 (by omega) (by omega) UI.out).mono ?_
  rintro e w2 ⟨rfl, m, hp, hheap, s2⟩
  have hl := hp.length_eq.trans HN.out
  go_wp2_with fail
  exact ⟨rfl, .tuple #[], by simp [results, Try.results20, go_sem], rfl, _, m, hp, hheap, by rw [hl]; exact s2⟩

set_option maxHeartbeats 2000000 in
theorem heapPop_st {w0 w : World} {rs : List Res} (p : Int) (g : Nat) (v : Value) (l : List Int) (h : St w0 w (box g #[v] 48 :: row v 52 2 l.length (hcells p l) :: rs)) (h0 : 0 < l.length) (hm : l.length ≤ 900) (hh : HeapN p l l.length) :
    Calls Try.prog 22 #[.iface 46 (.pointer (some ⟨g, 0, none⟩))] w fun e w' => e = .returned (.iface 52 (.agg #[.int .i64 (hat l 0), .int .i64 (scoreP p (hat l 0))])) ∧ ∃ (v' : Value) (m : List Int), (hat l 0 :: m).Perm l ∧ HeapN p m m.length ∧ St w0 w' (box g #[v'] 48 :: row v' 52 2 m.length (hcells p m) :: rs) := by
  obtain ⟨a, cap, rfl, _⟩ := own_cells h.drop.own
  obtain ⟨n, hn⟩ : ∃ n, l.length = n + 1 := ⟨l.length - 1, by omega⟩
  have DI := Lib.hid (down_start hh hn)
  have HN := Lib.hid hn
  have SL := Lib.hid ((swapL_len l 0 n).trans hn)
  have SA := Lib.hid ((hat_swap l (i := 0) (j := n) (by omega) (by omega) n).trans (if_pos rfl))
  rw [hn] at h
  have mPop := fun v W fuel => finds_pop fuel v W
  have iPop := enters_pop
  have mLen := fun (W : World) (hW : W.cell? ⟨g, 0, none⟩ = some (.slice a (n + 1) cap)) (fuel : Nat) => finds_len fuel g a (n + 1) cap W hW
  have iLen := enters_len
  have mSwap := fun (W : World) (hW : W.cell? ⟨g, 0, none⟩ = some (.slice a (n + 1) cap)) (fuel : Nat) => finds_swap fuel g a (n + 1) cap W hW
  have iSwap := enters_swap
  obtain ⟨c1, _⟩ := h.cells
  have c1 := c1 0
  simp at c1
  have M1 := mLen w c1
  have M2 := mSwap w c1
  have hn9 : n ≤ 900 := by omega
  have hn1 : 0 < n + 1 := by omega
  clear mLen mSwap hn hm h0 hh
  go_enter Try.func22, Try.ntmps22
  go_wp2_with fail
  refine (heapLen_calls a (n + 1) cap w).mono ?_
  rintro e w' ⟨rfl, rfl⟩
  go_wp2_with fail
  refine (swap_n p g a cap (n + 1) l 0 n HN.out h (by omega) (by omega) (by omega)).mono ?_
  rintro e w1 ⟨rfl, s1⟩
  go_wp2_with fail
  refine (heapDown_st p g a cap (n + 1) n (swapL l 0 n) SL.out s1 (by omega) (by omega) DI.out).mono ?_
  rintro e w2 ⟨he, m, hp, ha, hheap, s2⟩
  have ML := Lib.hid (hp.length_eq.trans SL.out)
  have HP := Lib.hid hp
  have HA := Lib.hid (ha.trans SA.out)
  have HH := Lib.hid hheap
  clear hp ha hheap h s1
  rcases he with rfl | rfl
  all_goals
    go_wp2_with fail
    refine (heapPop0_st p g a cap n m ML.out (by omega) s2).mono ?_
    rintro e w3 ⟨rfl, s3⟩
    go_wp2_with fail
    exact bodyPost_ret (v := .iface 52 (.agg #[.int .i64 (hat m n), .int .i64 (scoreP p (hat m n))])) (by simp [results, Try.results22, go_sem]) rfl ⟨by rw [HA.out], _, m.take n, heap_popped HP.out HN.out HA.out, heap_take (by rw [ML.out]; omega) HH.out, by rw [show (m.take n).length = n by rw [List.length_take, ML.out]; omega]; exact s3⟩

end Go.Proofs.Ytebklbncfcdkmaa
