
/-
  The walk of FnExactChainText.
-/
import Derived.Test.YtebklbncfcdkmaaDoorY7
import Derived.Test.YtebklbncfcdkmaaDoorE7
import Derived.Test.YtebklbncfcdkmaaDoorOp6
namespace Go.Proofs.YtebklbncfcdkmaaDoor.fnExactChainText
open Go.RowKit Go.Proofs.YtebklbncfcdkmaaDoor

theorem chainText_keys {view : Int} {ns ms : List Nd} (h : keys ns = keys ms) : chainText view ns = chainText view ms := by
  have hl : ns.length = ms.length := by rw [← keys_len ns, h, keys_len]
  have hn : ∀ i, nodeT (nd ns i) = nodeT (nd ms i) := fun i => by
    have := keys_nd h i
    unfold nodeT
    rw [this.1, this.2.1, this.2.2]
  have hk : ∀ k, linesT view ns k = linesT view ms k := fun k => by
    induction k with
    | zero => rfl
    | succ k ih => rw [linesT, linesT, ih, hn k]
  unfold chainText
  rw [chain_keys h, hl, hk]
theorem short_keys {ns ms : List Nd} {m : Nat} (h : keys ms = keys ns) (hs : Short ns m) : Short ms m := fun n hn => by
  obtain ⟨i, hi, rfl⟩ := List.getElem_of_mem hn
  have hl : ms.length = ns.length := by rw [← keys_len ms, h, keys_len]
  have e := (keys_nd h i).2.1
  rw [nd_eq hi] at e
  rw [e]
  exact hs.at (hl ▸ hi)

theorem lens_le {ns : List Nd} : ∀ n ∈ ns, n.us.length ≤ lensN ns := by
  intro n hn
  obtain ⟨i, hi, rfl⟩ := List.getElem_of_mem hn
  have h1 := lensN_take hi
  have h2 := lensN_le (ns := ns) (k := i + 1)
  rw [nd_eq hi] at h1
  omega

theorem nodes_of' {w0 w : World} {rs : List Res} {a : Option Addr} {cap : Nat} {ns : List Nd} (h : St w0 w (row (.slice a ns.length cap) 44 3 ns.length (ncells ns) :: rs)) (hs : ∀ r ∈ nds ns, r ∈ rs) : NodesAt w a ns :=
  ⟨own_cellsR h.own, nds_logs h.drop hs⟩
set_option maxRecDepth 100000 in
set_option maxHeartbeats 4000000 in
theorem walk (v0 : Value) (w : World) (hL : Pow10 w) (h0 : IsChainV w v0) :
    Calls Tryd.prog 8 #[v0] w fun e w' => e = .returned (.bool true) ∧ Below w.heap.size w w' := by
  obtain ⟨view, u, rfl, hfit, a, cap, ns, rfl, hc, hm, hx, hnc⟩ := h0
  clear hfit
  unfold maxLen at hm hnc
  have hu : ∀ n ∈ ns, n.us.length ≤ 9223372036854775807 := fun n hn => Nat.le_trans (hx.2 n hn).2 (Nat.le_trans (hnc n hn) (by omega))
  have s0 := (St.start w).alloc (.cells #[.int .i64 view, .slice a ns.length cap] 48)
  go_enter Tryd.func8, Tryd.ntmps8
  go_wp2_with fail
  refine (szChain_calls view a cap ns 1048576 _ (by omega) (by omega) (by omega) (hx.below s0.below) hu).mono ?_
  rintro e w1 ⟨v, rfl, hv, hb1⟩
  have s1 := s0.call hb1
  obtain ⟨c1, _⟩ := s1.cells
  clear s0 hb1
  by_cases hneg : v < 0
  · clear hv
    go_wp2_with fail
    go_ret
    exact ⟨rfl, s1.below⟩
  · have hvv : v = 1048576 - ns.length - lensN ns := by omega
    have l1 : ns.length ≤ 2097152 := by omega
    have hL : lensN ns ≤ 1048576 := by omega
    have l2 : ∀ n ∈ ns, n.us.length ≤ 2097152 := fun n hn => Nat.le_trans (lens_le n hn) (by omega)
    have SK := Lib.hid (fun ms (h : keys ms = keys ns) => (⟨by rw [← keys_len ms, h, keys_len], chainText_keys h, short_keys h (fun n hn => Nat.le_trans (l2 n hn) (by omega))⟩ : ms.length = ns.length ∧ chainText view ms = chainText view ns ∧ Short ms 1099511627776))
    have TC := Lib.hid (fun W (h : NodesAt W a ns) => toChain_calls view a cap ns W l1 l2 h)
    unfold MadeChain at TC
    clear hv hvv hL hu hnc l2
    go_wp2_with fail
    refine (TC.out _ (hx.below s1.below)).mono ?_
    rintro e w2 ⟨a2, cap2, ms2, rfl, hk2, ss⟩
    obtain ⟨hl2, hs2, hh2⟩ := SK.out ms2 hk2
    have m2 : ms2.length ≤ 2097152 := by omega
    clear hl2
    have s2 := s1.join ss
    have hc2 := own_cap s2.own
    have n2 := nodes_of' s2 (by intro r hr; simp [hr])
    have SP := Lib.hid (fun W (h : NodesAt W a2 ms2) => specChainText_calls view a2 cap2 ms2 W (by omega) hc2 hh2 h)
    rw [hs2] at SP
    have x2 := s2.boxIn (V := w.heap.size) (cs := #[.int .i64 view, .slice a ns.length cap]) (t := 48) (by simp) 0 rfl
    have y2 := s2.boxIn (V := w.heap.size) (cs := #[.int .i64 view, .slice a ns.length cap]) (t := 48) (by simp) 1 rfl
    clear s1 ss hs2 hk2 c1 hc2 hh2
    go_wp2_with fail
    refine (SP.out _ n2).mono ?_
    rintro e w3 ⟨rfl, hb3⟩
    have s3 := s2.call hb3
    have x3 := s3.boxIn (V := w.heap.size) (cs := #[.int .i64 view, .slice a ns.length cap]) (t := 48) (by simp) 0 rfl
    have y3 := s3.boxIn (V := w.heap.size) (cs := #[.int .i64 view, .slice a ns.length cap]) (t := 48) (by simp) 1 rfl
    clear hb3 SP n2 x2 y2 s2
    go_wp2_with fail
    refine (TC.out _ (hx.below s3.below)).mono ?_
    rintro e w4 ⟨a4, cap4, ms4, rfl, hk4, ss⟩
    have s4 := s3.join ss
    obtain ⟨hl4, hs4, hh4⟩ := SK.out ms4 hk4
    have m4 : ms4.length ≤ 2097152 := by omega
    have s5 := s4.alloc (.cells #[.int .i64 view, .slice a4 ms4.length cap4] 40)
    have n5 := nodes_of' s5.drop (by intro r hr; simp [hr])
    have IM := Lib.hid (fun W (h : NodesAt W a4 ms4) (ht : Pow10 W) => chainText_calls view a4 cap4 ms4 W (by omega) hh4 h ht)
    rw [hs4] at IM
    have HK4 := Lib.hid hk4
    have HH4 := Lib.hid hh4
    have HL4 := Lib.hid hl4
    clear ss s3 x3 y3 hs4 hk4 hh4 hl4
    generalize chainText view ns = z at *
    go_wp2_with fail
    refine (IM.out _ n5 (hL.below s5.below)).mono ?_
    rintro e w6 ⟨rfl, hb6⟩
    have s6 := s5.call hb6
    have n6 := n5.below (hb6.mono (Nat.le_refl _))
    clear hb6 IM s5 n5 s4
    go_wp2_with fail
    generalize w4.heap.size = X at *
    generalize w.heap.size = V at *
    have q0 := s6.boxIn (V := X) (cs := #[.int .i64 view, .slice a4 ms4.length cap4]) (t := 40) (by simp) 0 rfl
    obtain ⟨S, hS⟩ := Mix.named (fun w' => w'.cell? ⟨X, 0, none⟩ = some (.int .i64 view) ∧ w'.cell? ⟨X, 1, none⟩ = some (.slice a4 ms4.length cap4) ∧ w'.cell? ⟨V, 0, none⟩ = some (.int .i64 view) ∧ w'.cell? ⟨V, 1, none⟩ = some (.slice a ns.length cap))
    have HS := Lib.hid hS
    have e0 := Mix.held_cell (fun w h => ((hS w).1 h).1)
    have e1 := Mix.held_cell (fun w h => ((hS w).1 h).2.1)
    have e2 := Mix.held_cell (fun w h => ((hS w).1 h).2.2.1)
    have e3 := Mix.held_cell (fun w h => ((hS w).1 h).2.2.2)
    clear hS q0
    have SO := Lib.hid (fun W R (s : St w W R) (h1 : box X #[.int .i64 view, .slice a4 ms4.length cap4] 40 ∈ R) (h2 : box V #[.int .i64 view, .slice a ns.length cap] 48 ∈ R) => (HS.out W).2 ⟨s.boxIn h1 0 rfl, s.boxIn h1 1 rfl, s.boxIn h2 0 rfl, s.boxIn h2 1 rfl⟩)
    have s7 := s6.drew
    have n7 : NodesAt w6.drew a4 ms4 := n6.below ((Below.refl _ _).drew)
    clear s6 n6
    refine Mix.start S 99 (by kernel_rfl) ?_
    generalize w6.drew = w7 at *
    refine Mix.take [0, 1] 3 (by kernel_rfl) (by kernel_rfl) (by kernel_rfl) (by intro c a a' w e h; exact ⟨e.symm.trans h.1, h.2⟩) (SO.out _ _ s7 (by simp) (by simp)) ?_
    intro hne
    simp only [Mix.pickOps, List.filterMap_cons, List.filterMap_nil, List.getElem?_toArray, List.getElem?_cons_zero, List.getElem?_cons_succ]
    repeat (refine Mix.cons_form ?_; go_big_quiet_step (fail))
    refine wpQuiet_nil ?_
    clear hne
    refine Mix.step (i := 2) (by kernel_rfl) rfl rfl ?_
    go_simp
    refine (TC.out _ (hx.below s7.below)).mono ?_
    rintro e w8 ⟨a8, cap8, ms8, rfl, hk8, ss⟩
    have s8 := s7.join ss
    have n8 := nodes_of' ss (by intro r hr; simp [hr])
    have n8' := n7.below ss.below
    refine And.intro (SO.out _ _ s8 (by simp) (by simp)) ?_
    go_simp
    refine Mix.step (i := 3) (by kernel_rfl) rfl rfl ?_
    go_simp
    refine (eqChain_eq view a4 a8 cap4 cap8 ms4 ms8 _ (by omega) HH4.out (HK4.out.trans hk8.symm) n8' n8).mono ?_
    rintro e w9 ⟨rfl, hb9⟩
    have s9 := s8.call hb9
    refine And.intro (SO.out _ _ s9 (by simp) (by simp)) ?_
    go_simp
    refine Mix.take [4] 0 (by kernel_rfl) (by kernel_rfl) (by kernel_rfl) (by intro c a a' w e h; exact ⟨e.symm.trans h.1, h.2⟩) (SO.out _ _ s9 (by simp) (by simp)) ?_
    intro hne
    simp only [Mix.pickOps, List.filterMap_cons, List.filterMap_nil, List.getElem?_toArray, List.getElem?_cons_zero, List.getElem?_cons_succ]
    repeat (refine Mix.cons_form ?_; go_big_quiet_step (fail))
    refine wpQuiet_nil ?_
    clear hne
    refine Mix.done (by kernel_rfl) ?_
    have FIN := Lib.hid s9.below
    clear s7 s8 s9 ss n7 n8 n8' hb9
    go_wp2_with fail
    go_ret
    exact ⟨rfl, FIN.out⟩

end Go.Proofs.YtebklbncfcdkmaaDoor.fnExactChainText
