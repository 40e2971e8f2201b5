
/-
  The walk of ChainDrop. No statement is proved here.
-/
import Derived.Test.YtgpnbcdboofikaaC13
namespace Go.Proofs.Ytgpnbcdboofikaa
open Go.RowKit

/-- The last node knows all that it has to be everywhere. -/
def fixTail (ns : List Nd) : List Nd := ns.set (ns.length - 1) { nd ns (ns.length - 1) with done := (nd ns (ns.length - 1)).us.length }
theorem fixTail_len (ns : List Nd) : (fixTail ns).length = ns.length := by simp [fixTail]
theorem nd_set {ns : List Nd} {i : Nat} {n : Nd} (j : Nat) (hi : i < ns.length) : nd (ns.set i n) j = if i = j then n else nd ns j := by
  unfold nd
  rw [List.getD_eq_getElem?_getD, List.getElem?_set, List.getD_eq_getElem?_getD]
  by_cases h : i = j
  · subst h; simp [hi]
  · simp [h]
theorem fixTail_keys {ns ms : List Nd} (h : keys ns = keys ms) : keys (fixTail ns) = keys (fixTail ms) := by
  have hl : ns.length = ms.length := by rw [← keys_len ns, h, keys_len]
  have hk := keys_nd h
  refine keys_nd_of (by rw [fixTail_len, fixTail_len, hl]) fun i hi => ?_
  rw [fixTail_len] at hi
  unfold fixTail
  rw [nd_set i (by omega), nd_set i (by omega), hl]
  by_cases e : ms.length - 1 = i
  · rw [if_pos e, if_pos e]
    exact ⟨(hk _).1, (hk _).2.1, by simp only [(hk _).2.1]⟩
  · rw [if_neg e, if_neg e]; exact hk i
/-- What is left when the node at a place goes. -/
def left (ns : List Nd) (g : Nat) : List Nd := fixTail (ns.eraseIdx g)
noncomputable def dropOk (view : Int) (ns : List Nd) (x : Int) : Bool := chainOk view ns && decide (0 ≤ cplace ns x) && chainOk (view + 1) (left ns (cplace ns x).toNat)
noncomputable def dropNum (view : Int) (ns : List Nd) (x : Int) : Int := if dropOk view ns x = true then view + 1 else 0
noncomputable def dropKeys (view : Int) (ns : List Nd) (x : Int) : List Key := if dropOk view ns x = true then keys (left ns (cplace ns x).toNat) else []

theorem St.take {w0 w : World} : ∀ (rs X : List Res) {L : List Res}, L = rs ++ X → St w0 w L → St w0 w rs
  | [], _, _, rfl, h => by exact h.below
  | r :: rs, X, _, rfl, h => ⟨h.1, h.2.1, fun z hz => h.2.2.1 z (List.mem_append_left X hz), St.take rs X rfl h.2.2.2⟩
/-- What a function that makes a chain hands back. -/
def GaveChain (w : World) (num : Int) (ks : List Key) (ok : Bool) (e : Ending) (w' : World) : Prop :=
  ∃ (a : Option Addr) (cap : Nat) (ns : List Nd), e = .returned (.tuple #[.agg #[.int .i64 num, .slice a ns.length cap], .bool ok]) ∧ keys ns = ks ∧ St w w' (row (.slice a ns.length cap) 32 3 ns.length (ncells ns) :: nds ns)
theorem gaveChain {w w' : World} {num num' : Int} {ks : List Key} {ns : List Nd} {ok ok' : Bool} {v : Value} {X : List Res} (h : St w w' (row v 32 3 ns.length (ncells ns) :: (nds ns ++ X))) (hn : num' = num) (hk : keys ns = ks) (ho : ok' = ok) : GaveChain w num' ks ok' (.returned (.tuple #[.agg #[.int .i64 num, v], .bool ok])) w' := by
  subst hn; subst ho
  obtain ⟨a, cap, rfl, _⟩ := own_cells h.own
  exact ⟨a, cap, ns, rfl, hk, St.take (row (.slice a ns.length cap) 32 3 ns.length (ncells ns) :: nds ns) X rfl h⟩
theorem gaveNone {w w' : World} {num' : Int} {ks : List Key} {ok' : Bool} {X : List Res} (h : St w w' X) (hn : num' = 0) (hk : ks = []) (ho : ok' = false) : GaveChain w num' ks ok' (.returned (.tuple #[.agg #[.int .i64 0, .slice none 0 0], .bool false])) w' := by
  subst hn; subst hk; subst ho
  exact ⟨none, 0, [], rfl, rfl, ((St.start w).call h.below).nilRow 32 3⟩

theorem erase_same {ns : List Nd} {g k : Nat} (hk : k < ns.length) (h : k = g) : (ns.take (k + 1)).eraseIdx g = (ns.take k).eraseIdx g := by
  subst h
  have hl : (ns.take k).length = k := by simp; omega
  rw [List.take_succ_eq_append_getElem hk, List.eraseIdx_append_of_length_le (by omega), hl, Nat.sub_self, List.eraseIdx_of_length_le (l := ns.take k) (by omega)]
  simp
theorem erase_more {ns : List Nd} {g k : Nat} (hk : k < ns.length) (h : k ≠ g) : (ns.take (k + 1)).eraseIdx g = (ns.take k).eraseIdx g ++ [nd ns k] := by
  rw [List.take_succ_eq_append_getElem hk, nd_eq hk]
  have hl : (ns.take k).length = k := by simp; omega
  by_cases hg : g < k
  · rw [List.eraseIdx_append_of_lt_length (by omega)]
  · rw [List.eraseIdx_of_length_le (by simp; omega), List.eraseIdx_of_length_le (by omega)]
theorem keys_append (ns ms : List Nd) : keys (ns ++ ms) = keys ns ++ keys ms := by simp [keys]

/-- The result's box, found among the others, and written. -/
theorem chain_put {w0 w : World} {A X : List Res} {O R : Nat} {num : Int} {v : Value} {r : Res} (s : St w0 w (box O #[.int .i64 num, v] 25 :: r :: (A ++ (box R #[.int .i64 0, .slice none 0 0] 25 :: X)))) :
    (∀ o, w.cell? ⟨O, o, none⟩ = (#[.int .i64 num, v] : Array Value)[o]?) ∧ (∀ o, w.cell? ⟨R, o, none⟩ = (#[.int .i64 0, .slice none 0 0] : Array Value)[o]?) ∧ (∀ o, w.frozen? ⟨R, o, none⟩ = false) ∧
    (∀ o, ((w.setCell ⟨R, 0, none⟩ (.int .i64 num)).setCell ⟨R, 1, none⟩ v).cell? ⟨R, o, none⟩ = (((#[.int .i64 0, .slice none 0 0] : Array Value).setIfInBounds 0 (.int .i64 num)).setIfInBounds 1 v)[o]?) ∧
    St w0 ((w.setCell ⟨R, 0, none⟩ (.int .i64 num)).setCell ⟨R, 1, none⟩ v) (r :: (A ++ X)) ∧
    (∀ o, ((w.setCell ⟨R, 0, none⟩ (.int .i64 0)).setCell ⟨R, 1, none⟩ (.slice none 0 0)).cell? ⟨R, o, none⟩ = (((#[.int .i64 0, .slice none 0 0] : Array Value).setIfInBounds 0 (.int .i64 0)).setIfInBounds 1 (.slice none 0 0))[o]?) ∧
    St w0 ((w.setCell ⟨R, 0, none⟩ (.int .i64 0)).setCell ⟨R, 1, none⟩ (.slice none 0 0)) (r :: (A ++ X)) := by
  have h1 : St w0 w (box R #[.int .i64 0, .slice none 0 0] 25 :: box O #[.int .i64 num, v] 25 :: r :: (A ++ X)) := s.perm (List.perm_middle (l₁ := box O #[.int .i64 num, v] 25 :: r :: A))
  have h2 := (h1.set 0 (.int .i64 num)).set 1 v
  have h3 := (h1.set 0 (.int .i64 0)).set 1 (.slice none 0 0)
  exact ⟨s.cells.1, h1.cells.1, h1.cells.2, h2.cells.1, h2.drop.drop, h3.cells.1, h3.drop.drop⟩

theorem nodes_fix {w0 w : World} {O : Nat} {cs : Array Value} {t : TypeId} {a : Option Addr} {n cap : Nat} {ms : List Nd} {X : List Res} (h : St w0 w (box O cs t :: row (.slice a n cap) 32 3 ms.length (ncells ms) :: (nds ms ++ X))) (hn : n = ms.length) : NodesAt w a ms := by
  subst hn
  exact ⟨own_cellsR h.drop.own, nds_logs h (by intro r hr; simp [hr])⟩
theorem gaveFix {w w' : World} {num num' : Int} {ks : List Key} {ns : List Nd} {ok' : Bool} {v : Value} {X : List Res} (h : St w w' (row v 32 3 ns.length (ncells ns) :: (nds ns ++ X))) (hn : num' = num) (hk : keys ns = ks) (ho : ok' = true) : GaveChain w num' ks ok' (.returned (.tuple #[.agg #[.int .i64 num, v], .bool true])) w' := gaveChain h hn hk ho
theorem chain_perm2 (x y r : Res) (A X : List Res) : (x :: y :: r :: (A ++ X)).Perm (x :: y :: ((A ++ [r]) ++ X)) := by
  refine List.Perm.cons _ (List.Perm.cons _ ?_)
  rw [List.append_assoc]
  exact List.perm_middle.symm
theorem fix_nds (ms : List Nd) : nds (fixTail ms) = nds ms := nds_set rfl

set_option maxRecDepth 100000 in
set_option maxHeartbeats 8000000 in
theorem chainDrop_calls (view : Int) (a : Option Addr) (cap : Nat) (ns : List Nd) (x : Int) (w : World) (hm : ns.length ≤ 1099511627776) (hs : Short ns 1099511627776) (hx : NodesAt w a ns) :
    Calls Try.prog 27 #[.agg #[.int .i64 view, .slice a ns.length cap], .int .i64 x] w (GaveChain w (dropNum view ns x) (dropKeys view ns x) (dropOk view ns x)) := by
  have s0 := ((St.start w).alloc (.cells #[.int .i64 view, .slice a ns.length cap] 25)).allocAt (.cells #[.int .i64 0, .slice none 0 0] 25) (w.heap.size + 1) (by simp)
  have BAD := Lib.hid (fun (h : dropOk view ns x = false) => (⟨by rw [dropNum, h]; rfl, by rw [dropKeys, h]; rfl, h⟩ : dropNum view ns x = 0 ∧ dropKeys view ns x = [] ∧ dropOk view ns x = false))
  cases hv : chainOk view ns with
  | false =>
    have F := Lib.hid (BAD.out (by rw [dropOk, hv]; rfl))
    have HV := Lib.hid hv
    clear hv
    go_enter Try.func27, Try.ntmps27
    go_wp2_with fail
    refine (chainValid_calls _ _ _ _ _ hm hs (hx.below s0.below)).mono ?_
    rw [HV.out]
    rintro e w1 ⟨rfl, hb⟩
    have s1 := s0.call hb
    obtain ⟨c1, f1⟩ := s1.cells
    have s2 := (s1.set 0 (.int .i64 0)).set 1 (.slice none 0 0)
    have q2 := s2.cells.1
    have FIN := Lib.hid (gaveNone s2 F.out.1 F.out.2.1 F.out.2.2)
    clear s0 s1 s2 hb
    go_wp2_with fail
    exact bodyPost_ret (v := .tuple #[.agg #[.int .i64 0, .slice none 0 0], .bool false]) (by simp [results, Try.results27, go_sem, q2]) rfl FIN.out
  | true =>
    obtain ⟨⟨hv0, hv9⟩, ⟨hl1, hl5⟩, _, _⟩ := chainOk_iff.1 hv
    have HV := Lib.hid hv
    have CL := Lib.hid (fun i hi => (chain_logs hv i hi).2)
    by_cases hp : 0 ≤ cplace ns x
    · obtain ⟨g, hg⟩ := Int.eq_ofNat_of_zero_le hp
      have DO : Hid (dropOk view ns x = chainOk (view + 1) (left ns g)) := Lib.hid (by rw [dropOk, hv, decide_eq_true hp, hg]; rfl)
      have DN := Lib.hid (fun (h : dropOk view ns x = true) => (⟨by rw [dropNum, h]; rfl, by rw [dropKeys, h, hg]; rfl, h⟩ : dropNum view ns x = view + 1 ∧ dropKeys view ns x = keys (left ns g) ∧ dropOk view ns x = true))
      have HG := Lib.hid hg
      clear hv hp hg
      go_enter Try.func27, Try.ntmps27
      go_wp2_with fail
      refine (chainValid_calls _ _ _ _ _ hm hs (hx.below s0.below)).mono ?_
      rw [HV.out]
      rintro e w1 ⟨rfl, hb⟩
      have s1 := s0.call hb
      obtain ⟨c1, _⟩ := s1.drop.cells
      clear s0 hb
      go_wp2_with fail
      refine (chainPlace_calls _ _ _ _ _ _ hm (hx.below s1.below)).mono ?_
      rw [HG.out]
      rintro e w2 ⟨rfl, hb⟩
      have s2 := s1.call hb
      obtain ⟨c2, _⟩ := s2.drop.cells
      have l2 := s2.drop.lt.2
      have g1 : 0 ≤ view + 1 := by omega
      have g2 : view + 1 ≤ 1000 := by omega
      have s3 := ((s2.alloc (.cells #[.int .i64 (view + 1), .slice none 0 0] 25)).nilRow 32 3).at1
      clear s1 hb c1
      go_wp2_with fail
      generalize w2.alloc (.cells #[.int .i64 (view + 1), .slice none 0 0] 25 (0, 0)) = w3 at *
      generalize w2.heap.size = O at *
      clear s2 c2
      go_loopw [28] (fun i wr => ∃ (k : Nat) (v : Value) (ms : List Nd), k ≤ ns.length ∧ i = .int .i64 k ∧ ms.length ≤ k ∧ keys ms = keys ((ns.take k).eraseIdx g) ∧ St w wr (box O #[.int .i64 (view + 1), v] 25 :: row v 32 3 ms.length (ncells ms) :: (nds ms ++ (box (w.heap.size + 1) #[.int .i64 0, .slice none 0 0] 25 :: box w.heap.size #[.int .i64 view, .slice a ns.length cap] 25 :: [])))) (fun i _ => ns.length - (intOf i).toNat)
      case atStart => exact ⟨0, _, [], Nat.zero_le _, rfl, Nat.le_refl _, by simp, s3⟩
      case round =>
        clear s3
        obtain ⟨k, v, ms, hk, rfl, hmk, hkey, s4⟩ := hrel
        have HK := Lib.hid hkey
        clear hkey
        by_cases hlt : k < ns.length
        · obtain ⟨b, off, rfl, c0, c1, c2⟩ := (hx.below s4.below).cells k hlt
          have i1 : (0 : Int) ≤ (k : Int) := by omega
          have i2 : (k : Int) < (ns.length : Int) := by omega
          have ES := Lib.hid (erase_same (g := g) hlt)
          have EM := Lib.hid (erase_more (g := g) hlt)
          have hll := CL.out k hlt
          have UX := Lib.hid (fun W (h : Below w.heap.size w W) => ((hx.2.below h).at hlt).1)
          rcases hN : nd ns k with ⟨p, y, c, us, q⟩
          rw [hN] at c0 c1 c2 EM hll UX
          dsimp only at c0 c1 c2 EM hll UX
          clear hN
          have s5 := s4.alloc (.cells #[.int .i64 p, .slice y us.length c, .int .i64 q] 32)
          by_cases hkg : k = g
          · have hkg' : ((k : Int) != (g : Int)) = false := by simp [hkg]
            have FK := Lib.hid (HK.out.trans (by rw [ES.out hkg]) : keys ms = keys ((ns.take (k + 1)).eraseIdx g))
            have FIN := Lib.hid s5.drop
            clear s4 s5 hkg
            go_wp2_with fail
            go_roundw
            case rel => exact ⟨k + 1, v, ms, hlt, by go_num, by omega, FK.out, FIN.out⟩
            case measure => simp [intOf]; omega
          · have hkg' : ((k : Int) != (g : Int)) = true := by simp; omega
            clear hkg
            have FK := Lib.hid (fun y2 c2 => show keys (ms ++ [(⟨p, y2, c2, us, q⟩ : Nd)]) = keys ((ns.take (k + 1)).eraseIdx g) by rw [EM.out (by intro e; subst e; simp at hkg'), keys_append, keys_append, HK.out]; rfl)
            go_wp2_with fail
            generalize wr.alloc (.cells #[.int .i64 p, .slice y us.length c, .int .i64 q] 32 (0, 0)) = w5 at *
            generalize wr.heap.size = B at *
            clear s4 c0 c1 c2 ES EM
            obtain ⟨S, hS⟩ := Mix.named (fun w' => w'.cell? ⟨O, 1, none⟩ = some v ∧ w'.cell? ⟨B, 0, none⟩ = some (.int .i64 p) ∧ w'.cell? ⟨B, 1, none⟩ = some (.slice y us.length c) ∧ w'.cell? ⟨B, 2, none⟩ = some (.int .i64 q))
            have HS := Lib.hid hS
            have e0 := Mix.held_cell (fun w h => ((hS w).1 h).1)
            have e1 := Mix.held_cell (fun w h => ((hS w).1 h).2.1)
            have e2 := Mix.held_cell (fun w h => ((hS w).1 h).2.2.1)
            have e3 := Mix.held_cell (fun w h => ((hS w).1 h).2.2.2)
            clear hS
            have SO := Lib.hid (fun W rr (hr : box O #[.int .i64 (view + 1), v] 25 ∈ rr) (hr2 : boxo B (.cells #[.int .i64 p, .slice y us.length c, .int .i64 q] 32 (0, 0)) ∈ rr) (s : St w W rr) => by
              have a0 := cell_of_heap (o := 1) (s.pull hr).boxAt
              have a1 := cell_of_heap (o := 0) (s.pull hr2).boxAt
              have a2 := cell_of_heap (o := 1) (s.pull hr2).boxAt
              have a3 := cell_of_heap (o := 2) (s.pull hr2).boxAt
              simp at a0 a1 a2 a3
              exact (HS.out W).2 ⟨a0, a1, a2, a3⟩)
            have s6 := s5.drew
            refine Mix.start S 7 (by kernel_rfl) ?_
            refine Mix.take [0, 1, 2] 5 (by kernel_rfl) (by kernel_rfl) (by kernel_rfl) (by intro c a a' w e h; exact ⟨e.symm.trans h.1, h.2⟩) (SO.out _ _ (by simp) (by simp) s6) ?_
            intro hne
            simp only [Mix.pickOps, List.filterMap_cons, List.filterMap_nil, List.getElem?_toArray, List.getElem?_cons_zero, List.getElem?_cons_succ]
            repeat (refine Mix.cons_form ?_; go_big_quiet_step (fail))
            refine wpQuiet_nil ?_
            clear hne
            refine Mix.step (i := 3) (by kernel_rfl) rfl rfl ?_
            go_simp
            refine (copyNode_calls p q y c us _ (by omega) (UX.out _ s6.below)).mono ?_
            rintro e w6 ⟨gl, rfl, ss⟩
            have s7 := s6.join ss
            simp only [List.cons_append, List.nil_append] at s7
            refine And.intro (SO.out _ _ (by simp) (by simp) s7) ?_
            go_simp
            clear s5 s6 ss
            refine Mix.step (i := 4) (by kernel_rfl) rfl rfl ?_
            have s8 := s7.alloc (.cells #[.int .i64 p, .slice (some ⟨gl, 0, none⟩) us.length us.length, .int .i64 q] 32)
            go_simp
            refine And.intro (SO.out _ _ (by simp) (by simp) s8) ?_
            refine Mix.step (i := 5) (by kernel_rfl) rfl rfl ?_
            refine wp_app elem_node _ _ (by rfl) w.heap.size v ms.length (ncells ms) (by rfl) w6.heap.size 1 1 (by rfl) #[.int .i64 p, .slice (some ⟨gl, 0, none⟩) us.length us.length, .int .i64 q] 32 (0, 0) (by rfl) (by simp [Value.oneCell']) (by omega) (by omega) (by omega) (heap_alloc_new w6 _) s8.at4.own s8.size ?_
            intro gg cap3 w9 hown hgrow hat hl
            have s9 := (s8.at4.app (grown_refl _ _) hown hgrow hat hl).at4
            clear hown hgrow hat hl s7 s8
            refine And.intro (.inr (SO.out _ _ (by simp) (by simp) s9)) ?_
            go_simp
            refine Mix.take [6] 1 (by kernel_rfl) (by kernel_rfl) (by kernel_rfl) (by intro c a a' w e h; exact ⟨e.symm.trans h.1, h.2⟩) (SO.out _ _ (by simp) (by simp) s9) ?_
            intro hne
            simp only [Mix.pickOps, List.filterMap_cons, List.filterMap_nil, List.getElem?_toArray, List.getElem?_cons_zero, List.getElem?_cons_succ]
            repeat (refine Mix.cons_form ?_; go_big_quiet_step (fail))
            refine wpQuiet_nil ?_
            clear hne
            refine Mix.step (i := 7) (by kernel_rfl) rfl rfl ?_
            obtain ⟨d9, f9⟩ := s9.cells
            go_simp
            refine Mix.done (by kernel_rfl) ?_
            have s10 := s9.set 1 (.slice (some ⟨gg, 0, none⟩) (ms.length + 1) cap3)
            have s11 := s10.at2.drop.at3.drop.perm (chain_perm2 _ _ _ _ _)
            have FIN := Lib.hid s11
            clear s9 s10 s11 d9 f9
            go_wp2_with fail
            go_roundw
            case rel => exact ⟨k + 1, .slice (some ⟨gg, 0, none⟩) (ms.length + 1) cap3, ms ++ [⟨p, some ⟨gl, 0, none⟩, us.length, us, q⟩], hlt, by go_num, by simp; omega, FK.out _ _, by
              have F := FIN.out
              rw [nds_snoc, ncells_append, List.length_append]
              simpa [logRes, ncells, box] using F⟩
            case measure => simp [intOf]; omega
        · have hk2 : ns.take k = ns := List.take_of_length_le (by omega)
          rw [hk2] at HK
          obtain ⟨a3, cap3, rfl, _⟩ := own_cells s4.drop.own
          have KF := Lib.hid (fixTail_keys HK.out)
          have KO : Hid (chainOk (view + 1) (fixTail ms) = dropOk view ns x) := Lib.hid (by rw [DO.out]; exact chain_keys KF.out)
          have HMK := Lib.hid (show ∀ n ∈ ms, n.us.length ≤ 12 from fun n hn => by
            obtain ⟨i, hi, rfl⟩ := List.getElem_of_mem hn
            have h1 : keyOf ms[i] ∈ keys (ns.eraseIdx g) := by rw [← HK.out]; exact List.mem_map_of_mem (List.getElem_mem hi)
            obtain ⟨n', hn', e⟩ := List.mem_map.1 h1
            obtain ⟨j, hj, rfl⟩ := List.getElem_of_mem (List.mem_of_mem_eraseIdx hn')
            have h2 := CL.out j hj
            rw [nd_eq hj] at h2
            simp only [keyOf, Prod.mk.injEq] at e
            rw [← e.2.1]; exact h2)
          have HSM : Hid (Short (fixTail ms) 1099511627776) := Lib.hid (by
            unfold fixTail
            by_cases h0 : ms.length = 0
            · have : ms = [] := List.eq_nil_of_length_eq_zero h0
              subst this
              intro n hn; simp at hn
            · refine short_set (fun n hn => Nat.le_trans (HMK.out n hn) (by omega)) ?_
              rw [nd_eq (by omega)]
              have hq := HMK.out (ms[ms.length - 1]'(by omega)) (List.getElem_mem _)
              exact Nat.le_trans hq (by omega))
          obtain ⟨c4, f4⟩ := s4.cells
          have hms5 : ms.length ≤ 5 := by omega
          clear hk2 hmk
          by_cases h0 : ms.length = 0
          · have e0 : ms = [] := List.eq_nil_of_length_eq_zero h0
            subst e0
            have sF : St w wr (box O #[.int .i64 (view + 1), .slice a3 0 cap3] 25 :: row (.slice a3 0 cap3) 32 3 (fixTail []).length (ncells (fixTail [])) :: (nds (fixTail []) ++ (box (w.heap.size + 1) #[.int .i64 0, .slice none 0 0] 25 :: box w.heap.size #[.int .i64 view, .slice a ns.length cap] 25 :: []))) := s4
            clear s4 h0
            have CV := Lib.hid (fun W (h : NodesAt W a3 (fixTail [])) => chainValid_calls (view + 1) a3 cap3 (fixTail []) W (by rw [fixTail_len]; omega) HSM.out h)
            rw [fixTail_len] at CV
            obtain ⟨cO, cR, fR, qR, t1, q0, t0⟩ := chain_put sF
            have HN := Lib.hid (nodes_fix sF (by first | rfl | (rw [fixTail_len])))
            have LX := Lib.hid sF
            clear sF
            go_wp2_with fail
            refine (CV.out _ HN.out).mono ?_
            rw [KO.out]
            rintro e w7 ⟨rfl, hb7⟩
            have sG := LX.out.call hb7
            clear cO cR fR qR t1 q0 t0 CV
            obtain ⟨cO, cR, fR, qR, t1, q0, t0⟩ := chain_put sG
            cases ho : dropOk view ns x with
            | true =>
              have D := Lib.hid (DN.out ho)
              have FIN := Lib.hid (gaveFix t1 D.out.1 (KF.out.trans D.out.2.1.symm) D.out.2.2)
              clear sG t1 t0 q0 hb7 ho
              go_wp2_with fail
              exact bodyPost_ret (v := .tuple #[.agg #[.int .i64 (view + 1), .slice a3 0 cap3], .bool true]) (by simp [results, Try.results27, go_sem, qR]) rfl FIN.out
            | false =>
              have D := Lib.hid (BAD.out ho)
              have FIN := Lib.hid (gaveNone t0 D.out.1 D.out.2.1 D.out.2.2)
              clear sG t1 t0 qR hb7 ho
              go_wp2_with fail
              exact bodyPost_ret (v := .tuple #[.agg #[.int .i64 0, .slice none 0 0], .bool false]) (by simp [results, Try.results27, go_sem, q0]) rfl FIN.out
          · obtain ⟨gb, capb, e1, _⟩ := s4.drop.own.form (by omega)
            cases e1
            obtain ⟨L, hL⟩ : ∃ L, L = ms.length - 1 := ⟨_, rfl⟩
            have hLm : L < ms.length := by omega
            have eL : (ms.length : Int) - 1 = (L : Int) := by omega
            have j0 : (0 : Int) ≤ (L : Int) := by omega
            have j1 : (L : Int) < (ms.length : Int) := by omega
            have j2 : (0 : Int) < (ms.length : Int) := by omega
            have hlen := ncells_len ms
            have d1 := s4.drop.own.cellAt (L * 3 + 1) (by omega)
            rw [(ncells_at ms L hLm).2.1] at d1
            have d2 := s4.drop.own.cellAt (L * 3 + 2) (by omega)
            rw [(ncells_at ms L hLm).2.2] at d2
            have f2 := s4.drop.own.frozenAt (L * 3 + 2)
            have hll : (nd ms L).us.length ≤ 12 := by rw [nd_eq hLm]; exact HMK.out _ (List.getElem_mem _)
            have s5 := s4.at1.rowSet (L * 3 + 2) (.int .i64 ((nd ms L).us.length : Nat))
            rw [ncells_done ms L _ hLm] at s5
            have eF : ms.set L { nd ms L with done := ((nd ms L).us.length : Nat) } = fixTail ms := by rw [hL]; rfl
            rw [eF] at s5
            have sF : St w (wr.setCell ⟨gb, L * 3 + 2, none⟩ (.int .i64 ((nd ms L).us.length : Nat))) (box O #[.int .i64 (view + 1), .slice (some ⟨gb, 0, none⟩) ms.length cap3] 25 :: row (.slice (some ⟨gb, 0, none⟩) ms.length cap3) 32 3 (fixTail ms).length (ncells (fixTail ms)) :: (nds (fixTail ms) ++ (box (w.heap.size + 1) #[.int .i64 0, .slice none 0 0] 25 :: box w.heap.size #[.int .i64 view, .slice a ns.length cap] 25 :: []))) := by rw [fix_nds, fixTail_len]; exact s5.at1
            generalize (nd ms L).us.length = l at *
            clear s4 s5 eF hL hlen h0
            go_wp2_with fail
            have CV := Lib.hid (fun W (h : NodesAt W (some ⟨gb, 0, none⟩) (fixTail ms)) => chainValid_calls (view + 1) (some ⟨gb, 0, none⟩) cap3 (fixTail ms) W (by rw [fixTail_len]; omega) HSM.out h)
            rw [fixTail_len] at CV
            have HN := Lib.hid (nodes_fix sF (by first | rfl | (rw [fixTail_len])))
            have LX := Lib.hid sF
            clear sF
            refine (CV.out _ HN.out).mono ?_
            rw [KO.out]
            rintro e w7 ⟨rfl, hb7⟩
            have sG := LX.out.call hb7
            clear CV
            obtain ⟨cO, cR, fR, qR, t1, q0, t0⟩ := chain_put sG
            cases ho : dropOk view ns x with
            | true =>
              have D := Lib.hid (DN.out ho)
              have FIN := Lib.hid (gaveFix t1 D.out.1 (KF.out.trans D.out.2.1.symm) D.out.2.2)
              clear sG t1 t0 q0 hb7 ho
              go_wp2_with fail
              exact bodyPost_ret (v := .tuple #[.agg #[.int .i64 (view + 1), .slice (some ⟨gb, 0, none⟩) ms.length cap3], .bool true]) (by simp [results, Try.results27, go_sem, qR]) rfl FIN.out
            | false =>
              have D := Lib.hid (BAD.out ho)
              have FIN := Lib.hid (gaveNone t0 D.out.1 D.out.2.1 D.out.2.2)
              clear sG t1 t0 qR hb7 ho
              go_wp2_with fail
              exact bodyPost_ret (v := .tuple #[.agg #[.int .i64 0, .slice none 0 0], .bool false]) (by simp [results, Try.results27, go_sem, q0]) rfl FIN.out
    · have F := Lib.hid (BAD.out (by rw [dropOk, decide_eq_false hp]; simp))
      have hp' : cplace ns x < 0 := by omega
      obtain ⟨z, hz⟩ : ∃ z, cplace ns x = z := ⟨_, rfl⟩
      rw [hz] at hp'
      have HZ := Lib.hid hz
      clear hv hz hp
      go_enter Try.func27, Try.ntmps27
      go_wp2_with fail
      refine (chainValid_calls _ _ _ _ _ hm hs (hx.below s0.below)).mono ?_
      rw [HV.out]
      rintro e w1 ⟨rfl, hb⟩
      have s1 := s0.call hb
      obtain ⟨c1, _⟩ := s1.drop.cells
      clear s0 hb
      go_wp2_with fail
      refine (chainPlace_calls _ _ _ _ _ _ hm (hx.below s1.below)).mono ?_
      rw [HZ.out]
      rintro e w2 ⟨rfl, hb⟩
      have s2 := s1.call hb
      obtain ⟨c2, f2⟩ := s2.cells
      have s3 := (s2.set 0 (.int .i64 0)).set 1 (.slice none 0 0)
      have q3 := s3.cells.1
      have FIN := Lib.hid (gaveNone s3 F.out.1 F.out.2.1 F.out.2.2)
      clear s1 s2 s3 hb c1
      go_wp2_with fail
      exact bodyPost_ret (v := .tuple #[.agg #[.int .i64 0, .slice none 0 0], .bool false]) (by simp [results, Try.results27, go_sem, q3]) rfl FIN.out

end Go.Proofs.Ytgpnbcdboofikaa
