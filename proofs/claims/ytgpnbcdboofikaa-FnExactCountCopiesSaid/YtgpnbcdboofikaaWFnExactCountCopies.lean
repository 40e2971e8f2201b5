
/-
  The walk of FnExactCountCopies.
-/
import Derived.Test.YtgpnbcdboofikaaC8
import Derived.Test.YtgpnbcdboofikaaE8
import Derived.Test.YtgpnbcdboofikaaE1
import Derived.Test.YtgpnbcdboofikaaEq
import Derived.Test.YtgpnbcdboofikaaOp6
namespace Go.Proofs.Ytgpnbcdboofikaa.fnExactCountCopies
open Go.RowKit Go.Proofs.Ytgpnbcdboofikaa

theorem cnt_keys : ∀ {ns ms : List Nd}, keys ns = keys ms → cnt ns = cnt ms
  | [], [], _ => rfl
  | [], _ :: _, h => by simp [keys] at h
  | _ :: _, [], h => by simp [keys] at h
  | n :: ns, m :: ms, h => by
    simp only [keys, List.map_cons, List.cons.injEq] at h
    have h1 : n.us = m.us := by have := h.1; simp only [keyOf, Prod.mk.injEq] at this; exact this.2.1
    funext j
    rw [cnt_cons, cnt_cons, h1, cnt_keys (ns := ns) (ms := ms) h.2]
theorem copies_keys {view : Int} {ns ms : List Nd} (h : keys ns = keys ms) : copiesOf view ns = copiesOf view ms := by
  unfold copiesOf
  rw [chain_keys h, cnt_keys h, (keys_nd h 0).2.1]
theorem short_keys {ns ms : List Nd} {m : Nat} (h : keys ms = keys ns) (hs : Short ns m) : Short ms m := fun n hn => by
  obtain ⟨i, hi, rfl⟩ := List.getElem_of_mem hn
  have hl : ms.length = ns.length := by rw [← keys_len ms, h, keys_len]
  have e := (keys_nd h i).2.1
  rw [nd_eq hi] at e
  rw [e]
  exact hs.at (hl ▸ hi)

theorem lens_le {ns : List Nd} : ∀ n ∈ ns, n.us.length ≤ lensN ns := by
  intro n hn
  obtain ⟨i, hi, rfl⟩ := List.getElem_of_mem hn
  have h1 := lensN_take hi
  have h2 := lensN_le (ns := ns) (k := i + 1)
  rw [nd_eq hi] at h1
  omega

theorem nodes_of' {w0 w : World} {rs : List Res} {a : Option Addr} {cap : Nat} {ns : List Nd} (h : St w0 w (row (.slice a ns.length cap) 32 3 ns.length (ncells ns) :: rs)) (hs : ∀ r ∈ nds ns, r ∈ rs) : NodesAt w a ns :=
  ⟨own_cellsR h.own, nds_logs h.drop hs⟩
theorem lens_keys {ns ms : List Nd} (h : keys ns = keys ms) : lensN ns = lensN ms := by
  have := congrArg (fun l => (List.map (fun k : Key => k.2.1.length) l).sum) h
  simpa [keys, keyOf, lensN, List.map_map, Function.comp_def] using this
theorem St.skip {w0 w : World} : ∀ (A : List Res) {rs : List Res}, St w0 w (A ++ rs) → St w0 w rs
  | [], _, h => h
  | _ :: A, _, h => St.skip A h.2.2.2

theorem eqIntS_eq (a a' : Option Addr) (cap cap' : Nat) (xs : List Int) (w : World) (hm : xs.length ≤ 1099511627776) (hx : IntsAt w a xs) (hy : IntsAt w a' xs) :
    Calls Try.prog 33 #[.slice a xs.length cap, .slice a' xs.length cap'] w fun e w' => e = .returned (.bool true) ∧ Below w.heap.size w w' := by
  have := eqIntS_calls a a' cap cap' xs xs w hm hm hx hy
  rw [decide_eq_true rfl] at this
  exact this
set_option maxRecDepth 100000 in
set_option maxHeartbeats 8000000 in
theorem walk (v0 : Value) (w : World) (h0 : IsChainV w v0) :
    Calls Try.prog 13 #[v0] w fun e w' => e = .returned (.bool true) ∧ Below w.heap.size w w' := by
  obtain ⟨view, u, rfl, hfit, a, cap, ns, rfl, hc, hm, hx, hnc⟩ := h0
  clear hfit
  unfold maxLen at hm hnc
  have hu : ∀ n ∈ ns, n.us.length ≤ 9223372036854775807 := fun n hn => Nat.le_trans (hx.2 n hn).2 (Nat.le_trans (hnc n hn) (by omega))
  have s0 := (St.start w).alloc (.cells #[.int .i64 view, .slice a ns.length cap] 49)
  go_enter Try.func13, Try.ntmps13
  go_wp2_with fail
  refine (szChain_calls view a cap ns 1048576 _ (by omega) (by omega) (by omega) (hx.below s0.below) hu).mono ?_
  rintro e w1 ⟨v, rfl, hv, hb1⟩
  have s1 := s0.call hb1
  obtain ⟨c1, _⟩ := s1.cells
  clear s0 hb1
  by_cases hneg : v < 0
  · clear hv
    go_wp2_with fail
    go_ret
    exact ⟨rfl, s1.below⟩
  · have hvv : v = 1048576 - ns.length - lensN ns := by omega
    have l1 : ns.length ≤ 2097152 := by omega
    have hL : lensN ns ≤ 1048576 := by omega
    have l2 : ∀ n ∈ ns, n.us.length ≤ 2097152 := fun n hn => Nat.le_trans (lens_le n hn) (by omega)
    have SK := Lib.hid (fun ms (h : keys ms = keys ns) => (⟨by rw [← keys_len ms, h, keys_len]; exact l1, copies_keys h, short_keys h (fun n hn => Nat.le_trans (l2 n hn) (by omega)), short_keys h (fun n hn => l2 n hn), by rw [lens_keys h]; exact hL⟩ : ms.length ≤ 2097152 ∧ copiesOf view ms = copiesOf view ns ∧ Short ms 1099511627776 ∧ Short ms 2097152 ∧ lensN ms ≤ 1048576))
    have TC := Lib.hid (fun W (h : NodesAt W a ns) => toChain_calls view a cap ns W l1 l2 h)
    unfold MadeChain at TC
    have hcl := copies_len (view := view) (ns := ns)
    clear hv hvv hL hu hnc l2
    go_wp2_with fail
    refine (TC.out _ (hx.below s1.below)).mono ?_
    rintro e w2 ⟨a2, cap2, ms2, rfl, hk2, ss⟩
    obtain ⟨m2, hs2, hh2, _, _⟩ := SK.out ms2 hk2
    have s2 := s1.join ss
    have hc2 := own_cap s2.own
    have n2 := nodes_of' s2 (by intro r hr; simp [hr])
    have SP := Lib.hid (fun W (h : NodesAt W a2 ms2) => specCountCopies_calls view a2 cap2 ms2 W (by omega) hc2 hh2 h)
    unfold MadeInts at SP
    rw [hs2] at SP
    generalize hcs : copiesOf view ns = cs at *
    have x2 := s2.boxIn (V := w.heap.size) (cs := #[.int .i64 view, .slice a ns.length cap]) (t := 49) (by simp) 0 rfl
    have y2 := s2.boxIn (V := w.heap.size) (cs := #[.int .i64 view, .slice a ns.length cap]) (t := 49) (by simp) 1 rfl
    clear s1 ss hs2 hk2 c1 hc2 hh2 hcs
    go_wp2_with fail
    refine (SP.out _ n2).mono ?_
    rintro e w3 ⟨a3, cap3, rfl, ho3, hb3⟩
    have s3 := (s2.fresh hb3 ho3 (Nat.le_refl _)).under (St.skip (row (.slice a2 ms2.length cap2) 32 3 ms2.length (ncells ms2) :: nds ms2)) (by simp)
    have x3 := s3.boxIn (V := w.heap.size) (cs := #[.int .i64 view, .slice a ns.length cap]) (t := 49) (by simp) 0 rfl
    have y3 := s3.boxIn (V := w.heap.size) (cs := #[.int .i64 view, .slice a ns.length cap]) (t := 49) (by simp) 1 rfl
    clear hb3 ho3 SP n2 x2 y2 s2
    go_wp2_with fail
    refine (TC.out _ (hx.below s3.below)).mono ?_
    rintro e w4 ⟨a4, cap4, ms4, rfl, hk4, ss⟩
    have s4 := s3.join ss
    obtain ⟨m4, hs4, hh4, hj4, hL4⟩ := SK.out ms4 hk4
    have s5 := s4.alloc (.cells #[.int .i64 view, .slice a4 ms4.length cap4] 25)
    have n5 := nodes_of' s5.drop (by intro r hr; simp [hr])
    have IM := Lib.hid (fun W A C M (h0 : M.length ≤ 2097152) (h1 : Short M 1099511627776) (h2 : copiesOf view M = cs) (h : NodesAt W A M) => by
      have k := countCopies_calls view A C M W (by omega) h1 h
      unfold MadeInts at k
      rw [h2] at k
      exact k)
    have HK4 := Lib.hid hk4
    have HH4 := Lib.hid hh4
    have HS4 := Lib.hid hs4
    have HJ4 := Lib.hid hj4
    clear ss s3 x3 y3 hs4 hk4 hh4 hj4
    go_wp2_with fail
    refine (IM.out _ _ _ _ m4 HH4.out HS4.out n5).mono ?_
    rintro e w6 ⟨a5, cap5, rfl, ho6, hb6⟩
    have s6 := s5.fresh hb6 ho6 (Nat.le_refl _)
    have n6 := n5.below hb6
    have I5 := s6.intsIn (a := a5) (n := cs.length) (cap := cap5) (xs := cs) (by simp) rfl
    have I3 := s6.intsIn (a := a3) (n := cs.length) (cap := cap3) (xs := cs) (by simp) rfl
    clear hb6 ho6 s5 n5 s4
    go_wp2_with fail
    generalize w4.heap.size = X at *
    generalize w.heap.size = V at *
    refine (eqIntS_eq _ _ _ _ cs _ (by omega) I5 I3).mono ?_
    rintro e w7 ⟨rfl, hb7⟩
    have s7 := s6.call hb7
    have n7 := n6.below hb7
    clear hb7 I5 I3 s6 n6
    go_wp2_with fail
    obtain ⟨S, hS⟩ := Mix.named (fun w' => w'.cell? ⟨X, 0, none⟩ = some (.int .i64 view) ∧ w'.cell? ⟨X, 1, none⟩ = some (.slice a4 ms4.length cap4) ∧ w'.cell? ⟨V, 0, none⟩ = some (.int .i64 view) ∧ w'.cell? ⟨V, 1, none⟩ = some (.slice a ns.length cap))
    have HS := Lib.hid hS
    have e0 := Mix.held_cell (fun w h => ((hS w).1 h).1)
    have e1 := Mix.held_cell (fun w h => ((hS w).1 h).2.1)
    have e2 := Mix.held_cell (fun w h => ((hS w).1 h).2.2.1)
    have e3 := Mix.held_cell (fun w h => ((hS w).1 h).2.2.2)
    clear hS
    have SO := Lib.hid (fun W R (s : St w W R) (h1 : box X #[.int .i64 view, .slice a4 ms4.length cap4] 25 ∈ R) (h2 : box V #[.int .i64 view, .slice a ns.length cap] 49 ∈ R) => (HS.out W).2 ⟨s.boxIn h1 0 rfl, s.boxIn h1 1 rfl, s.boxIn h2 0 rfl, s.boxIn h2 1 rfl⟩)
    have s8 := s7.drew
    have n8 : NodesAt w7.drew a4 ms4 := n7.below ((Below.refl _ _).drew)
    clear s7 n7
    refine Mix.start S 99 (by kernel_rfl) ?_
    generalize w7.drew = w8 at *
    refine Mix.take [0, 1] 3 (by kernel_rfl) (by kernel_rfl) (by kernel_rfl) (by intro c a a' w e h; exact ⟨e.symm.trans h.1, h.2⟩) (SO.out _ _ s8 (by simp) (by simp)) ?_
    intro hne
    simp only [Mix.pickOps, List.filterMap_cons, List.filterMap_nil, List.getElem?_toArray, List.getElem?_cons_zero, List.getElem?_cons_succ]
    repeat (refine Mix.cons_form ?_; go_big_quiet_step (fail))
    refine wpQuiet_nil ?_
    clear hne
    refine Mix.step (i := 2) (by kernel_rfl) rfl rfl ?_
    go_simp
    refine (TC.out _ (hx.below s8.below)).mono ?_
    rintro e w9 ⟨a9, cap9, ms9, rfl, hk9, ss⟩
    have s9 := s8.call ss.below
    have n9 := nodes_of' ss (by intro r hr; simp [hr])
    have n9' := n8.below ss.below
    refine And.intro (SO.out _ _ s9 (by simp) (by simp)) ?_
    go_simp
    refine Mix.step (i := 3) (by kernel_rfl) rfl rfl ?_
    go_simp
    refine (eqChain_eq view a4 a9 cap4 cap9 ms4 ms9 _ (by omega) HH4.out (HK4.out.trans hk9.symm) n9' n9).mono ?_
    rintro e w10 ⟨rfl, hb10⟩
    have s10 := s9.call hb10
    refine And.intro (SO.out _ _ s10 (by simp) (by simp)) ?_
    go_simp
    refine Mix.take [4] 0 (by kernel_rfl) (by kernel_rfl) (by kernel_rfl) (by intro c a a' w e h; exact ⟨e.symm.trans h.1, h.2⟩) (SO.out _ _ s10 (by simp) (by simp)) ?_
    intro hne
    simp only [Mix.pickOps, List.filterMap_cons, List.filterMap_nil, List.getElem?_toArray, List.getElem?_cons_zero, List.getElem?_cons_succ]
    repeat (refine Mix.cons_form ?_; go_big_quiet_step (fail))
    refine wpQuiet_nil ?_
    clear hne
    refine Mix.done (by kernel_rfl) ?_
    have x10 := s10.boxIn (V := X) (cs := #[.int .i64 view, .slice a4 ms4.length cap4]) (t := 25) (by simp) 0 rfl
    have y10 := s10.boxIn (V := X) (cs := #[.int .i64 view, .slice a4 ms4.length cap4]) (t := 25) (by simp) 1 rfl
    have s11 : St w w10 (row (.slice a4 ms4.length cap4) 32 3 ms4.length (ncells ms4) :: (nds ms4 ++ [row (.slice a5 cs.length cap5) 3 1 cs.length (cs.map (Value.int .i64)), box X #[.int .i64 view, .slice a4 ms4.length cap4] 25, row (.slice a3 cs.length cap3) 3 1 cs.length (cs.map (Value.int .i64)), box V #[.int .i64 view, .slice a ns.length cap] 49])) := s10.perm (List.perm_append_comm_assoc [row (.slice a5 cs.length cap5) 3 1 cs.length (cs.map (Value.int .i64)), box X #[.int .i64 view, .slice a4 ms4.length cap4] 25] (row (.slice a4 ms4.length cap4) 32 3 ms4.length (ncells ms4) :: nds ms4) [row (.slice a3 cs.length cap3) 3 1 cs.length (cs.map (Value.int .i64)), box V #[.int .i64 view, .slice a ns.length cap] 49])
    clear s8 s9 s10 ss n8 n9 n9' hb10 hk9 e0 e1 e2 e3
    go_wp2_with fail
    refine (markChain_st view a4 cap4 ms4 1 s11 m4 HJ4.out (by omega) (by omega)).mono ?_
    rintro e w12 ⟨k12, rfl, hk12, X12, s12⟩
    have s13 := St.skip X12 s12
    have I5 := s13.intsIn (a := a5) (n := cs.length) (cap := cap5) (xs := cs) (by simp) rfl
    have I3 := s13.intsIn (a := a3) (n := cs.length) (cap := cap3) (xs := cs) (by simp) rfl
    clear s11 s12 x10 y10
    go_wp2_with fail
    refine (eqIntS_eq _ _ _ _ cs _ (by omega) I5 I3).mono ?_
    rintro e w14 ⟨rfl, hb14⟩
    have s14 := s13.call hb14
    clear s13 hb14 I5 I3
    go_wp2_with fail
    refine (markIntS_st _ _ _ _ _ s14 (by omega) (by omega) (by omega)).mono ?_
    rintro e w15 ⟨rfl, s15⟩
    clear s14
    go_wp2_with fail
    refine (heldIntS_calls _ _ _ _ _ (own_cellsR s15.own) (by omega) (by omega) (by omega)).mono ?_
    rintro e w16 ⟨rfl, rfl⟩
    have v0 := s15.boxIn (V := V) (cs := #[.int .i64 view, .slice a ns.length cap]) (t := 49) (by simp) 0 rfl
    have v1 := s15.boxIn (V := V) (cs := #[.int .i64 view, .slice a ns.length cap]) (t := 49) (by simp) 1 rfl
    have hp : 0 ≤ 1 + (cs.length : Int) := by omega
    go_wp2_with fail
    refine (TC.out _ (hx.below s15.below)).mono ?_
    rintro e w17 ⟨a17, cap17, ms17, rfl, hk17, ss⟩
    obtain ⟨m17, hs17, hh17, _, _⟩ := SK.out ms17 hk17
    have HS17 := Lib.hid hs17
    have HH17 := Lib.hid hh17
    have n17 := nodes_of' ss (by intro r hr; simp [hr])
    have s17 := s15.call ss.below
    clear s15 ss v0 v1 hs17 hh17 hk17
    go_wp2_with fail
    refine (IM.out _ _ _ _ m17 HH17.out HS17.out n17).mono ?_
    rintro e w18 ⟨a18, cap18, rfl, ho18, hb18⟩
    have s18 := s17.fresh hb18 ho18 (Nat.le_refl _)
    have I18 := s18.intsIn (a := a18) (n := cs.length) (cap := cap18) (xs := cs) (by simp) rfl
    have I3 := s18.intsIn (a := a3) (n := cs.length) (cap := cap3) (xs := cs) (by simp) rfl
    clear s17 ho18 hb18 n17
    go_wp2_with fail
    refine (eqIntS_eq _ _ _ _ cs _ (by omega) I18 I3).mono ?_
    rintro e w19 ⟨rfl, hb19⟩
    have s19 := s18.call hb19
    clear s18 hb19 I18 I3
    go_wp2_with fail
    refine (heldIntS_calls _ _ _ _ _ (own_cellsR s19.drop.own) (by omega) (by omega) (by omega)).mono ?_
    rintro e w20 ⟨rfl, rfl⟩
    have FIN := Lib.hid s19.below
    clear s19
    go_wp2_with fail
    go_ret
    exact ⟨rfl, FIN.out⟩

end Go.Proofs.Ytgpnbcdboofikaa.fnExactCountCopies
