
/-
  The walks of the heap of servers: up, down, Push and Pop. No statement is proved here.
-/
import Derived.Test.YtebklbncfcdkmaaX2
namespace Go.Proofs.Ytebklbncfcdkmaa
open Go.RowKit

theorem finds_value (name : String) (f : Nat) (fuel g : Nat) (a : Option Addr) (n cap : Nat) (w : World)
    (hm : (Try.prog.info? 46).map (fun i => (i.methods.find? (·.name == name)).map (fun m => (m.path.toList.length, m.func))) = some (some (0, some (f, false))))
    (h : w.cell? ⟨g, 0, none⟩ = some (.slice a n cap)) :
    (method (fuel + 1) 46 (.pointer (some ⟨g, 0, none⟩)) name).run Try.prog w = .ok (f, .slice a n cap) w := by
  cases hi : Try.prog.info? 46 with
  | none => rw [hi] at hm; cases hm
  | some i =>
    rw [hi] at hm
    simp only [Option.map_some, Option.some.injEq] at hm
    cases hf : i.methods.find? (·.name == name) with
    | none => rw [hf] at hm; cases hm
    | some m =>
      rw [hf] at hm
      simp only [Option.map_some, Option.some.injEq, Prod.mk.injEq] at hm
      obtain ⟨m1, m2⟩ := hm
      have m1 := List.eq_nil_of_length_eq_zero m1
      have m3 : m.path = #[] := by rcases hp : m.path with ⟨l⟩; rw [hp] at m1; simp at m1; rw [m1]
      have u := run_underlying (P := Try.prog) (w := w) Try.underlying46
      have ck : ∀ s : String, (Builtin.ssaWrapNilChk_ #[46] 46 #[.pointer (some ⟨g, 0, none⟩), strVal "", strVal s]).run Try.prog w = .ok (.pointer (some ⟨g, 0, none⟩)) w := fun s => rfl
      unfold method
      simp [typeInfo, hi, hf, m3, m2, follow, receiverAt, Place.get, u, ck, asAddr, go_sem, h]

theorem finds_len (fuel g : Nat) (a : Option Addr) (n cap : Nat) (w : World) (h : w.cell? ⟨g, 0, none⟩ = some (.slice a n cap)) : (method (fuel + 1) 46 (.pointer (some ⟨g, 0, none⟩)) "Len").run Try.prog w = .ok (54, .slice a n cap) w := finds_value "Len" _ fuel g a n cap w (by kernel_rfl) h
theorem finds_less (fuel g : Nat) (a : Option Addr) (n cap : Nat) (w : World) (h : w.cell? ⟨g, 0, none⟩ = some (.slice a n cap)) : (method (fuel + 1) 46 (.pointer (some ⟨g, 0, none⟩)) "Less").run Try.prog w = .ok (55, .slice a n cap) w := finds_value "Less" _ fuel g a n cap w (by kernel_rfl) h
theorem finds_swap (fuel g : Nat) (a : Option Addr) (n cap : Nat) (w : World) (h : w.cell? ⟨g, 0, none⟩ = some (.slice a n cap)) : (method (fuel + 1) 46 (.pointer (some ⟨g, 0, none⟩)) "Swap").run Try.prog w = .ok (58, .slice a n cap) w := finds_value "Swap" _ fuel g a n cap w (by kernel_rfl) h
theorem finds_push (fuel : Nat) (v : Value) (w : World) : (method (fuel + 1) 46 v "Push").run Try.prog w = .ok (57, v) w := by kernel_rfl
theorem finds_pop (fuel : Nat) (v : Value) (w : World) : (method (fuel + 1) 46 v "Pop").run Try.prog w = .ok (56, v) w := by kernel_rfl

theorem enters_len (args : Array Value) (w : World) : (callFunc 54 args).run Try.prog w = .ok (.enter 54 args) w := by kernel_rfl
theorem enters_less (args : Array Value) (w : World) : (callFunc 55 args).run Try.prog w = .ok (.enter 55 args) w := by kernel_rfl
theorem enters_swap (args : Array Value) (w : World) : (callFunc 58 args).run Try.prog w = .ok (.enter 58 args) w := by kernel_rfl
theorem enters_push (args : Array Value) (w : World) : (callFunc 57 args).run Try.prog w = .ok (.enter 57 args) w := by kernel_rfl
theorem enters_pop (args : Array Value) (w : World) : (callFunc 56 args).run Try.prog w = .ok (.enter 56 args) w := by kernel_rfl
theorem less_n {w0 w : World} {rs : List Res} (p : Int) (g : Nat) (a : Option Addr) (cap n : Nat) (l : List Int) (i j : Nat) (hn : l.length = n) (h : St w0 w (box g #[.slice a n cap] 48 :: row (.slice a n cap) 52 2 n (hcells p l) :: rs)) (hi : i < n) (hj : j < n) (hl : n ≤ 1000) :
    Calls Try.prog 55 #[.slice a n cap, .int .i64 i, .int .i64 j] w fun e w' => e = .returned (.bool (decide (bt p (hat l i) (hat l j)))) ∧ St w0 w' (box g #[.slice a n cap] 48 :: row (.slice a n cap) 52 2 n (hcells p l) :: rs) := by
  subst hn
  exact (heapLess_st p a cap l i j h.at1 hi hj hl).mono fun e w' h => ⟨h.1, h.2.at1⟩
theorem swap_n {w0 w : World} {rs : List Res} (p : Int) (g : Nat) (a : Option Addr) (cap n : Nat) (l : List Int) (i j : Nat) (hn : l.length = n) (h : St w0 w (box g #[.slice a n cap] 48 :: row (.slice a n cap) 52 2 n (hcells p l) :: rs)) (hi : i < n) (hj : j < n) (hl : n ≤ 1000) :
    Calls Try.prog 58 #[.slice a n cap, .int .i64 i, .int .i64 j] w fun e w' => e = .returned (.tuple #[]) ∧ St w0 w' (box g #[.slice a n cap] 48 :: row (.slice a n cap) 52 2 n (hcells p (swapL l i j)) :: rs) := by
  subst hn
  exact (heapSwap_st p a cap l i j h.at1 hi hj hl).mono fun e w' h => ⟨h.1, h.2.at1⟩

set_option maxHeartbeats 2000000 in
theorem heapUp_st {w0 w : World} {rs : List Res} (p : Int) (g : Nat) (a : Option Addr) (cap n j : Nat) (l : List Int) (hn : l.length = n) (h : St w0 w (box g #[.slice a n cap] 48 :: row (.slice a n cap) 52 2 n (hcells p l) :: rs)) (hj : j < n) (hl : n ≤ 1000) (hu : UpInv p l j) :
    Calls Try.prog 34 #[.iface 46 (.pointer (some ⟨g, 0, none⟩)), .int .i64 j] w fun e w' => e = .returned (.tuple #[]) ∧ ∃ m : List Int, m.Perm l ∧ HeapN p m m.length ∧ St w0 w' (box g #[.slice a n cap] 48 :: row (.slice a n cap) 52 2 n (hcells p m) :: rs) := by
  have mLess := fun (W : World) (hW : W.cell? ⟨g, 0, none⟩ = some (.slice a n cap)) (fuel : Nat) => finds_less fuel g a n cap W hW
  have iLess := enters_less
  have mSwap := fun (W : World) (hW : W.cell? ⟨g, 0, none⟩ = some (.slice a n cap)) (fuel : Nat) => finds_swap fuel g a n cap W hW
  have iSwap := enters_swap
  have HU := Lib.hid hu
  have HN := Lib.hid hn
  clear hu hn
  go_enter Try.func34, Try.ntmps34
  go_wp2_with fail
  go_loopw [1] (fun jv wr => ∃ (k : Nat) (m : List Int), jv = .int .i64 k ∧ k < n ∧ m.Perm l ∧ UpInv p m k ∧ St w0 wr (box g #[.slice a n cap] 48 :: row (.slice a n cap) 52 2 n (hcells p m) :: rs)) (fun jv _ => (intOf jv).toNat)
  case atStart => exact ⟨j, l, rfl, hj, .refl _, HU.out, h⟩
  case round =>
    clear h HU
    obtain ⟨k, m, rfl, hk, hp, hu, s1⟩ := hrel
    have hml : m.length = n := hp.length_eq.trans HN.out
    have HP := Lib.hid hp
    have HU := Lib.hid hu
    have HM := Lib.hid hml
    clear hp hu hml
    obtain ⟨c1, _⟩ := s1.cells
    have c0 := c1 0
    simp at c0
    clear c1
    have M1 := mLess wr c0
    cases k with
    | zero =>
      go_wp2_with fail
      exact ⟨rfl, .tuple #[], by simp [results, Try.results34, go_sem], rfl, m, HP.out, by rw [HM.out, ← HM.out]; exact up_end HU.out (.inl rfl), s1⟩
    | succ k =>
      obtain ⟨q, hq⟩ : ∃ q, k / 2 = q := ⟨_, rfl⟩
      have e1 : (k : Int) / 2 = (q : Nat) := by omega
      have e2 : (k : Int).tdiv 2 = (q : Nat) := by rw [Int.tdiv_eq_ediv_of_nonneg (by omega)]; exact e1
      have e3 : ((q : Int) == (k : Int) + 1) = false := by simp; omega
      have HQ := Lib.hid hq
      have hqk : q < k + 1 := by omega
      clear hq
      have less := less_n p g a cap n m (k + 1) q HM.out s1 hk (by omega) hl
      by_cases hb : bt p (hat m (k + 1)) (hat m q)
      · rw [decide_eq_true hb] at less
        have LESS := Lib.hid less
        clear less
        go_wp2_with fail
        refine LESS.out.mono ?_
        rintro e w1 ⟨rfl, s2⟩
        obtain ⟨c2, _⟩ := s2.cells
        have c2 := c2 0
        simp at c2
        have M2 := mSwap w1 c2
        go_wp2_with fail
        refine (swap_n p g a cap n m q (k + 1) HM.out s2 (by omega) hk hl).mono ?_
        rintro e w2 ⟨rfl, s3⟩
        have UP := Lib.hid (up_step HU.out (by rw [HM.out]; exact hk) (by omega) (by rw [show (k + 1 - 1) / 2 = q from HQ.out]; exact hb))
        rw [show (k + 1 - 1) / 2 = q from HQ.out] at UP
        have PE := Lib.hid ((swapL_perm m (i := q) (j := k + 1) (by rw [HM.out]; omega) (by rw [HM.out]; exact hk)).trans HP.out)
        clear hb LESS
        go_wp2_with fail
        go_roundw
        case rel => exact ⟨q, _, rfl, by omega, PE.out, UP.out, s3⟩
        case measure => simp [intOf]; omega
      · rw [decide_eq_false hb] at less
        have LESS := Lib.hid less
        have UP := Lib.hid (up_end HU.out (.inr (by rw [show (k + 1 - 1) / 2 = q from HQ.out]; exact hb)))
        clear less hb
        go_wp2_with fail
        refine LESS.out.mono ?_
        rintro e w1 ⟨rfl, s2⟩
        go_wp2_with fail
        exact ⟨rfl, .tuple #[], by simp [results, Try.results34, go_sem], rfl, m, HP.out, UP.out, s2⟩

set_option maxHeartbeats 2000000 in
theorem heapDown_st {w0 w : World} {rs : List Res} (p : Int) (g : Nat) (a : Option Addr) (cap n N : Nat) (l : List Int) (hn : l.length = n) (h : St w0 w (box g #[.slice a n cap] 48 :: row (.slice a n cap) 52 2 n (hcells p l) :: rs)) (hN : N < n) (hl : n ≤ 1000) (hu : DownInv p l 0 N) :
    Calls Try.prog 35 #[.iface 46 (.pointer (some ⟨g, 0, none⟩)), .int .i64 0, .int .i64 N] w fun e w' => (e = .returned (.bool false) ∨ e = .returned (.bool true)) ∧ ∃ m : List Int, m.Perm l ∧ hat m N = hat l N ∧ HeapN p m N ∧ St w0 w' (box g #[.slice a n cap] 48 :: row (.slice a n cap) 52 2 n (hcells p m) :: rs) := by
  have mLess := fun (W : World) (hW : W.cell? ⟨g, 0, none⟩ = some (.slice a n cap)) (fuel : Nat) => finds_less fuel g a n cap W hW
  have iLess := enters_less
  have mSwap := fun (W : World) (hW : W.cell? ⟨g, 0, none⟩ = some (.slice a n cap)) (fuel : Nat) => finds_swap fuel g a n cap W hW
  have iSwap := enters_swap
  have HU := Lib.hid hu
  have HN := Lib.hid hn
  clear hu hn
  go_enter Try.func35, Try.ntmps35
  go_wp2_with fail
  go_loopw [7] (fun jv wr => ∃ (k : Nat) (m : List Int), jv = .int .i64 k ∧ k ≤ N ∧ m.Perm l ∧ hat m N = hat l N ∧ DownInv p m k N ∧ St w0 wr (box g #[.slice a n cap] 48 :: row (.slice a n cap) 52 2 n (hcells p m) :: rs)) (fun jv _ => N - (intOf jv).toNat)
  case atStart => exact ⟨0, l, rfl, by omega, .refl _, rfl, HU.out, h⟩
  case round =>
    clear h HU
    obtain ⟨k, m, rfl, hk, hp, ha, hu, s1⟩ := hrel
    have hml : m.length = n := hp.length_eq.trans HN.out
    have HP := Lib.hid hp
    have HA := Lib.hid ha
    have HU := Lib.hid hu
    have HM := Lib.hid hml
    clear hp ha hu hml
    obtain ⟨c1, _⟩ := s1.cells
    have c0 := c1 0
    simp at c0
    clear c1
    have M1 := mLess wr c0
    by_cases h1 : 2 * k + 1 < N
    · obtain ⟨J, hJ⟩ : ∃ J : Nat, 2 * k + 1 = J := ⟨_, rfl⟩
      obtain ⟨I, hI⟩ : ∃ I : Nat, J + 1 = I := ⟨_, rfl⟩
      have eJ : 2 * (k : Int) + 1 = (J : Nat) := by omega
      have eI : (J : Int) + 1 = (I : Nat) := by omega
      have hJN : J < N := by omega
      have CR : Hid (I < N → bt p (hat m I) (hat m J) → Child p m k N I) := Lib.hid (by subst hI; subst hJ; exact child_right)
      have CL : Hid (¬ (I < N ∧ bt p (hat m I) (hat m J)) → Child p m k N J) := Lib.hid (by subst hI; subst hJ; exact child_left h1)
      have hkJ : k < J := by omega
      have hJI : J < I := by omega
      clear hJ hI h1
      by_cases h2 : I < N
      · by_cases hr : bt p (hat m I) (hat m J)
        · have less := less_n p g a cap n m I J HM.out s1 (by omega) (by omega) hl
          rw [decide_eq_true hr] at less
          have CH := Lib.hid (CR.out h2 hr)
          have LESS := Lib.hid less
          clear less hr CR CL
          go_wp2_with fail
          refine LESS.out.mono ?_
          rintro e w3 ⟨rfl, s3⟩
          obtain ⟨c3, _⟩ := s3.cells
          have c3 := c3 0
          simp at c3
          have M3 := mLess w3 c3
          clear LESS
          by_cases hb : bt p (hat m I) (hat m k)
          · have less2 := less_n p g a cap n m I k HM.out s3 (by omega) (by omega) hl
            rw [decide_eq_true hb] at less2
            have DS := Lib.hid (down_step HU.out (by rw [HM.out]; omega) CH.out hb)
            have PE := Lib.hid ((swapL_perm m (i := k) (j := I) (by rw [HM.out]; omega) (by rw [HM.out]; omega)).trans HP.out)
            have AT := Lib.hid ((hat_swap m (i := k) (j := I) (by rw [HM.out]; omega) (by rw [HM.out]; omega) N).trans ((if_neg (by omega)).trans ((if_neg (by omega)).trans HA.out)))
            have LESS2 := Lib.hid less2
            clear less2 hb
            go_wp2_with fail
            refine LESS2.out.mono ?_
            rintro e w4 ⟨rfl, s4⟩
            obtain ⟨c4, _⟩ := s4.cells
            have c4 := c4 0
            simp at c4
            have M4 := mSwap w4 c4
            go_wp2_with fail
            refine (swap_n p g a cap n m k I HM.out s4 (by omega) (by omega) hl).mono ?_
            rintro e w5 ⟨rfl, s5⟩
            go_wp2_with fail
            go_roundw
            case rel => exact ⟨I, _, rfl, by omega, PE.out, AT.out, DS.out, s5⟩
            case measure => simp [intOf]; omega
          · have less2 := less_n p g a cap n m I k HM.out s3 (by omega) (by omega) hl
            rw [decide_eq_false hb] at less2
            have DE := Lib.hid (down_end HU.out (.inr ⟨I, CH.out, hb⟩))
            have LESS2 := Lib.hid less2
            clear less2 hb
            go_wp2_with fail
            refine LESS2.out.mono ?_
            rintro e w4 ⟨rfl, s4⟩
            go_wp2_with fail
            exact bodyPost_ret (v := .bool (decide (0 < k))) (by simp [results, Try.results35, go_sem]) rfl ⟨by cases decide (0 < k) <;> simp, m, HP.out, HA.out, DE.out, s4⟩
        · have less := less_n p g a cap n m I J HM.out s1 (by omega) (by omega) hl
          rw [decide_eq_false hr] at less
          have CH := Lib.hid (CL.out (fun h => hr h.2))
          have LESS := Lib.hid less
          clear less hr CR CL
          go_wp2_with fail
          refine LESS.out.mono ?_
          rintro e w3 ⟨rfl, s3⟩
          obtain ⟨c3, _⟩ := s3.cells
          have c3 := c3 0
          simp at c3
          have M3 := mLess w3 c3
          clear LESS
          by_cases hb : bt p (hat m J) (hat m k)
          · have less2 := less_n p g a cap n m J k HM.out s3 (by omega) (by omega) hl
            rw [decide_eq_true hb] at less2
            have DS := Lib.hid (down_step HU.out (by rw [HM.out]; omega) CH.out hb)
            have PE := Lib.hid ((swapL_perm m (i := k) (j := J) (by rw [HM.out]; omega) (by rw [HM.out]; omega)).trans HP.out)
            have AT := Lib.hid ((hat_swap m (i := k) (j := J) (by rw [HM.out]; omega) (by rw [HM.out]; omega) N).trans ((if_neg (by omega)).trans ((if_neg (by omega)).trans HA.out)))
            have LESS2 := Lib.hid less2
            clear less2 hb
            go_wp2_with fail
            refine LESS2.out.mono ?_
            rintro e w4 ⟨rfl, s4⟩
            obtain ⟨c4, _⟩ := s4.cells
            have c4 := c4 0
            simp at c4
            have M4 := mSwap w4 c4
            go_wp2_with fail
            refine (swap_n p g a cap n m k J HM.out s4 (by omega) (by omega) hl).mono ?_
            rintro e w5 ⟨rfl, s5⟩
            go_wp2_with fail
            go_roundw
            case rel => exact ⟨J, _, rfl, by omega, PE.out, AT.out, DS.out, s5⟩
            case measure => simp [intOf]; omega
          · have less2 := less_n p g a cap n m J k HM.out s3 (by omega) (by omega) hl
            rw [decide_eq_false hb] at less2
            have DE := Lib.hid (down_end HU.out (.inr ⟨J, CH.out, hb⟩))
            have LESS2 := Lib.hid less2
            clear less2 hb
            go_wp2_with fail
            refine LESS2.out.mono ?_
            rintro e w4 ⟨rfl, s4⟩
            go_wp2_with fail
            exact bodyPost_ret (v := .bool (decide (0 < k))) (by simp [results, Try.results35, go_sem]) rfl ⟨by cases decide (0 < k) <;> simp, m, HP.out, HA.out, DE.out, s4⟩
      · have CH := Lib.hid (CL.out (fun h => h2 h.1))
        clear CR CL
        by_cases hb : bt p (hat m J) (hat m k)
        · have less2 := less_n p g a cap n m J k HM.out s1 (by omega) (by omega) hl
          rw [decide_eq_true hb] at less2
          have DS := Lib.hid (down_step HU.out (by rw [HM.out]; omega) CH.out hb)
          have PE := Lib.hid ((swapL_perm m (i := k) (j := J) (by rw [HM.out]; omega) (by rw [HM.out]; omega)).trans HP.out)
          have AT := Lib.hid ((hat_swap m (i := k) (j := J) (by rw [HM.out]; omega) (by rw [HM.out]; omega) N).trans ((if_neg (by omega)).trans ((if_neg (by omega)).trans HA.out)))
          have LESS2 := Lib.hid less2
          clear less2 hb
          go_wp2_with fail
          refine LESS2.out.mono ?_
          rintro e w4 ⟨rfl, s4⟩
          obtain ⟨c4, _⟩ := s4.cells
          have c4 := c4 0
          simp at c4
          have M4 := mSwap w4 c4
          go_wp2_with fail
          refine (swap_n p g a cap n m k J HM.out s4 (by omega) (by omega) hl).mono ?_
          rintro e w5 ⟨rfl, s5⟩
          go_wp2_with fail
          go_roundw
          case rel => exact ⟨J, _, rfl, by omega, PE.out, AT.out, DS.out, s5⟩
          case measure => simp [intOf]; omega
        · have less2 := less_n p g a cap n m J k HM.out s1 (by omega) (by omega) hl
          rw [decide_eq_false hb] at less2
          have DE := Lib.hid (down_end HU.out (.inr ⟨J, CH.out, hb⟩))
          have LESS2 := Lib.hid less2
          clear less2 hb
          go_wp2_with fail
          refine LESS2.out.mono ?_
          rintro e w4 ⟨rfl, s4⟩
          go_wp2_with fail
          exact bodyPost_ret (v := .bool (decide (0 < k))) (by simp [results, Try.results35, go_sem]) rfl ⟨by cases decide (0 < k) <;> simp, m, HP.out, HA.out, DE.out, s4⟩
    · have UP := Lib.hid (down_end HU.out (.inl (by omega)))
      go_wp2_with fail
      exact bodyPost_ret (v := .bool (decide (0 < k))) (by simp [results, Try.results35, go_sem]) rfl ⟨by cases decide (0 < k) <;> simp, m, HP.out, HA.out, UP.out, s1⟩

end Go.Proofs.Ytebklbncfcdkmaa
