
/-
  A chain as a text: the program's. Conditions: the chain's sizes; the table of powers of ten lies as the program's text lays it.
-/
import Derived.Test.YtebklbncfcdkmaaDoorY5
import Derived.Lib.LaidTab
import Derived.Lib.SmallJoins
namespace Go.Proofs.YtebklbncfcdkmaaDoor
open Go.RowKit

theorem below_growS (w : World) (k : Nat) (os : Array Obj) : Below w.heap.size w (Sort.grow (w.drewN k) os) :=
  ⟨rfl, rfl, rfl, by simp [Sort.grow], fun b hb => by simp [Sort.grow, Array.getElem?_append_left hb]⟩

/-- The table of powers of ten lies in w. -/
def Pow10 (w : World) : Prop := Lib.TabIs Tryd.prog w "internal/strconv.uint64pow10" .u64 Lib.pow10Tab
theorem pow10_global : Tryd.prog.globalNamed "internal/strconv.uint64pow10" = some 1 := by kernel_rfl
theorem Pow10.below {w w' : World} (h : Pow10 w) (hb : Below w.heap.size w w') : Pow10 w' := Joins.var_stays pow10_global h hb (Nat.le_refl _)
theorem itoa_calls (n : Nat) (h : n ≤ 9223372036854775807) (w : World) (ht : Pow10 w) :
    Calls Tryd.prog 41 #[.int .i64 n] w fun e w' => e = .returned (.string ⟨(Lib.decDigits n).toArray⟩) ∧ Below w.heap.size w w' := by
  refine (Tryd.strconv_Itoa n (by omega) (by omega) w ht).mono ?_
  rintro e w' ⟨rfl, k, os, rfl⟩
  rw [Lib.itoa_nonneg]
  exact ⟨rfl, below_growS w k os⟩

set_option maxRecDepth 100000 in
set_option maxHeartbeats 4000000 in
theorem chainText_calls (view : Int) (a : Option Addr) (cap : Nat) (ns : List Nd) (w : World) (hm : ns.length ≤ 1099511627776) (hs : Short ns 1099511627776) (hx : NodesAt w a ns) (ht : Pow10 w) :
    Calls Tryd.prog 24 #[.agg #[.int .i64 view, .slice a ns.length cap]] w fun e w' => e = .returned (.string ⟨(chainText view ns).toArray⟩) ∧ Below w.heap.size w w' := by
  have s0 := (St.start w).alloc (.cells #[.int .i64 view, .slice a ns.length cap] 40)
  go_enter Tryd.func24, Tryd.ntmps24
  go_wp2_with fail
  refine (chainValid_calls view a cap ns _ hm hs (hx.below s0.below)).mono ?_
  rintro e w1 ⟨rfl, hb⟩
  have s1 := s0.call hb
  clear s0 hb
  obtain ⟨c1, _⟩ := s1.cells
  cases h : chainOk view ns with
  | false =>
    have FIN : Hid (chainText view ns = []) := Lib.hid (by simp [chainText, h])
    go_wp2_with fail
    exact bodyPost_ret (v := .string ⟨#[]⟩) (by simp [results, Tryd.results24, go_sem]) rfl ⟨by rw [FIN.out], s1.below⟩
  | true =>
    have FIN : Hid (chainText view ns = linesT view ns ns.length) := Lib.hid (by simp [chainText, h])
    have LL := Lib.hid (linesT_length h)
    have HP := Lib.hid (chainOk_iff.1 h)
    have hv1 := HP.out.1.1
    have hv2 := HP.out.1.2
    have hhl := headT_length hv2
    have hn1 : 1 ≤ ns.length := HP.out.2.1.1
    have hn5 : ns.length ≤ 5 := HP.out.2.1.2
    obtain ⟨v, rfl⟩ : ∃ v : Nat, view = v := ⟨view.toNat, by omega⟩
    have hv : v ≤ 9223372036854775807 := by omega
    obtain ⟨t1, ht1⟩ : ∃ t, [118, 105, 101, 119, 32] ++ Lib.decDigits v = t := ⟨_, rfl⟩
    have ht2 : t1 ++ [10] = headT v := by rw [← ht1]; simp [headT]
    have l1 : t1.length ≤ (headT v).length := by rw [← ht2]; simp
    obtain ⟨H, hH⟩ : ∃ t, headT v = t := ⟨_, rfl⟩
    have hh0 : linesT v ns 0 = H := by rw [← hH]; rfl
    rw [hH] at ht2 l1 hhl
    have cat1 := cat_to (P := Tryd.prog) ht1 (by omega)
    have cat2 := cat_to (P := Tryd.prog) ht2 (by omega)
    have s2 := s1.alloc (.cells #[.pointer none, .slice none 0 0] 64)
    obtain ⟨c2, _⟩ := s2.drop.cells
    have k0 := (c2 0).trans (show _ = some (Value.int .i64 v) from rfl)
    have BN := Lib.hid (Bld.new w1)
    have HH0 := Lib.hid hh0
    have HT := Lib.hid (ht.below s2.below)
    clear h c1 c2 hh0 hH ht1 ht2 hv1 hv2 l1 ht
    go_wp2_with fail
    refine (itoa_calls v hv _ HT.out).mono ?_
    rintro e w2 ⟨rfl, hb2⟩
    have s3 := s2.call hb2
    have hD3 := Bld.below BN.out hb2
    go_wp2_with fail
    refine (writeString_calls _ _ _ H _ hD3 (by simp; omega) (by have := s3.lt; omega)).mono ?_
    rintro e w3 ⟨rfl, hD4, hb3, hk3⟩
    have hB3 : Below w1.heap.size w1 w3 := (((Below.refl _ _).alloc (Nat.le_refl _) _).trans (hb2.mono (by simp))).trans hb3
    have BX := Lib.hid (fun W (h : Below w1.heap.size w1 W) => s1.call h)
    have s4 := BX.out _ hB3
    have e1 := (s4.cells.1 1).trans (show _ = some (Value.slice a ns.length cap) from rfl)
    have HD4 := Lib.hid hD4
    have HB3 := Lib.hid hB3
    clear cat1 cat2 hB3 hD4 hb3 hk3 hD3 hb2 s3 s2 s1 hhl s4
    go_wp2_with fail
    clear e1
    go_loopw [18] (fun i wr => ∃ k : Nat, k ≤ ns.length ∧ i = .int .i64 k ∧ Bld w1.heap.size w1.heap.size (linesT v ns k) wr ∧ Below w1.heap.size w1 wr) (fun i _ => ns.length - (intOf i).toNat)
    case atStart => exact ⟨0, Nat.zero_le _, rfl, by rw [HH0.out]; simpa using HD4.out, HB3.out⟩
    case round =>
      obtain ⟨k, hk, rfl, hD, hB⟩ := hrel
      have hjl := LL.out k hk
      by_cases hlt : k < ns.length
      · obtain ⟨b, off, rfl, c0, c1, c2⟩ := (hx.below (BX.out _ hB).below).cells k hlt
        have hjs := LL.out (k + 1) (by omega)
        have SK := (HP.out.2.2.1 k hlt).1
        have HU' := Lib.hid (fun W (h : Below w.heap.size w W) => ((hx.2.below h).at hlt).1)
        have hnx : linesT v ns (k + 1) = linesT v ns k ++ nodeT (nd ns k) := rfl
        have hmk := hs.at hlt
        have i1 : (0 : Int) ≤ (k : Int) := by omega
        have i2 : (k : Int) < (ns.length : Int) := by omega
        rcases hN : nd ns k with ⟨p, y, c, us, q⟩
        have HU : Hid (∀ W, Below w.heap.size w W → UpdsAt W y us) := Lib.hid (by have := HU'.out; rw [hN] at this; exact this)
        clear HU'
        rw [hN] at c0 c1 c2 SK hnx hmk
        dsimp only at c0 c1 c2 SK hmk
        clear hN
        obtain ⟨p1, p2, p3⟩ := nodeOk_parts SK
        obtain ⟨p, rfl⟩ : ∃ n : Nat, p = n := ⟨p.toNat, by omega⟩
        obtain ⟨q, rfl⟩ : ∃ n : Nat, q = n := ⟨q.toNat, by omega⟩
        have hp : p < 100 := by omega
        have hq : q < 100 := by have := (logOk_all p2).1; omega
        have hnl := nodeT_length (n := ⟨p, y, c, us, q⟩) SK
        simp only [nodeT, Int.toNat_natCast] at hnx hnl
        obtain ⟨x1, hx1⟩ : ∃ x, Lib.decDigits p ++ [32] = x := ⟨_, rfl⟩
        obtain ⟨x2, hx2⟩ : ∃ x, x1 ++ logT us = x := ⟨_, rfl⟩
        obtain ⟨x3, hx3⟩ : ∃ x, x2 ++ [32] = x := ⟨_, rfl⟩
        obtain ⟨x4, hx4⟩ : ∃ x, x3 ++ Lib.decDigits q = x := ⟨_, rfl⟩
        obtain ⟨x5, hx5⟩ : ∃ x, x4 ++ [10] = x := ⟨_, rfl⟩
        rw [hx1, hx2, hx3, hx4, hx5] at hnx hnl
        have e5 : x4.length ≤ x5.length := by rw [← hx5]; simp
        have e4 : x3.length ≤ x4.length := by rw [← hx4]; simp
        have e3 : x2.length ≤ x3.length := by rw [← hx3]; simp
        have e2 : x1.length ≤ x2.length := by rw [← hx2]; simp
        have cat1 := cat_to (P := Tryd.prog) hx1 (by omega)
        have cat2 := cat_to (P := Tryd.prog) hx2 (by omega)
        have cat3 := cat_to (P := Tryd.prog) hx3 (by omega)
        have cat4 := cat_to (P := Tryd.prog) hx4 (by omega)
        have cat5 := cat_to (P := Tryd.prog) hx5 (by omega)
        have LG := Lib.hid (fun W (h : UpdsAt W y us) => logText_calls y c us W hmk h)
        rw [show logText us = logT us by simp [logText, p2]] at LG
        have hD2 := hD.alloc (.cells #[.int .i64 p, .slice y us.length c, .int .i64 q] 44)
        have hB2 := hB.alloc hB.size (.cells #[.int .i64 p, .slice y us.length c, .int .i64 q] 44)
        have hU2 := heap_alloc_new wr (.cells #[.int .i64 p, .slice y us.length c, .int .i64 q] 44)
        have HD2 := Lib.hid hD2
        have HB2 := Lib.hid hB2
        have d0 := (cell_of_heap (o := 0) hU2).trans (show _ = some (Value.int .i64 p) from rfl)
        have d1 := (cell_of_heap (o := 1) hU2).trans (show _ = some (Value.slice y us.length c) from rfl)
        have d2 := (cell_of_heap (o := 2) hU2).trans (show _ = some (Value.int .i64 q) from rfl)
        have HN := Lib.hid hnx
        clear hnx hx1 hx2 hx3 hx4 hx5 e2 e3 e4 e5 hjs p1 p2 p3 SK hD2 hB2 hU2 hD hB
        go_wp2_with fail
        clear c0 c1 c2
        generalize wr.alloc (.cells #[.int .i64 p, .slice y us.length c, .int .i64 q] 44 (0, 0)) = wq at *
        generalize wr.heap.size = V at *
        have g0 := grow_cell d0
        have g1 := grow_cell d1
        have g2 := grow_cell d2
        have HG := Lib.hid (fun x : Grown wq => HB2.out.trans ((grow_below x).mono HB2.out.size))
        have HD3 := Lib.hid (fun x : Grown wq => Bld.below HD2.out (grow_below x))
        have L4 := Lib.hid (fun x : Grown wq => LG.out (grow wq x) (HU.out _ (BX.out _ (HG.out x)).below))
        refine Mix.run_last_grow [0, 1, 2, 3, 4, 5, 6, 7, 8, 9, 10, 11, 12, 13] 14 rfl (by kernel_rfl) (by kernel_rfl) rfl rfl rfl ?_
        simp only [Mix.pickOps, List.filterMap_cons, List.filterMap_nil, List.getElem?_toArray, List.getElem?_cons_zero, List.getElem?_cons_succ]
        repeat (refine Mix.cons_form ?_; go_big_quiet_step (((first | (go_at_call 20; exact Calls.grow_of (L4.out _)) | (go_at_call 41; exact Calls.grow_same ((Tryd.strconv_Itoa_small _ (by assumption) _).mono fun _ _ h => ⟨h.1, h.2.symm⟩))))))
        refine wpQuiet_nil ?_
        intro x
        go_simp
        refine (writeString_calls _ _ _ x5 _ (HD3.out x) (by omega) (HG.out x).size).mono ?_
        rintro e w5 ⟨rfl, hD5, hb5, hk5⟩
        have F5 := Lib.hid ((HG.out x).trans hb5)
        clear hb5 hk5
        go_simp
        go_wp2_with fail
        go_roundw
        case rel => exact ⟨k + 1, hlt, by go_num, by rw [HN.out]; exact hD5, F5.out⟩
        case measure => simp [intOf]; omega
      · obtain rfl : k = ns.length := by omega
        go_wp2_with fail
        refine (Tryd.Builder_String_any_k w1.heap.size w1.heap.size (linesT v ns ns.length) _ hD hB.size).mono ?_
        rintro e w2 ⟨rfl, _, hb2, _⟩
        go_wp2_with fail
        exact bodyPost_ret (v := .string ⟨(linesT v ns ns.length).toArray⟩) (by simp [results, Tryd.results24, go_sem]) rfl ⟨by rw [FIN.out], (BX.out _ (hB.trans hb2)).below⟩
end Go.Proofs.YtebklbncfcdkmaaDoor
