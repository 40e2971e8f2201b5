
/-
  The walk of the reference's ChainValid. No statement is proved here.
-/
import Derived.Test.YtebklbncfcdkmaaDoorC3
import Derived.Test.YtebklbncfcdkmaaDoorGw
namespace Go.Proofs.YtebklbncfcdkmaaDoor
open Go.RowKit

theorem nd_take {ns : List Nd} {k j : Nat} (h : j < k) : nd (ns.take k) j = nd ns j := by
  simp [nd, List.getD, h]
theorem has_first {ns : List Nd} {k : Nat} {x : Int} (h : ∀ j, j < k → (nd ns j).id ≠ x) : decide (0 ≤ cplace (ns.take k) x) = false := by
  rw [cplace_none fun j hj => ?_]
  · rfl
  · have : j < k := by simp at hj; omega
    rw [nd_take this]; exact h j this
theorem has_again {ns : List Nd} {k : Nat} {x : Int} (hk : k ≤ ns.length) (h : ¬ ∀ j, j < k → (nd ns j).id ≠ x) : decide (0 ≤ cplace (ns.take k) x) = true := by
  apply decide_eq_true
  apply Classical.byContradiction
  intro hc
  apply h
  intro j hj e
  apply hc
  have hm : x ∈ (ns.take k).map Nd.id := by
    rw [← e, List.mem_map]
    refine ⟨nd ns j, ?_, rfl⟩
    rw [nd_eq (by omega), List.mem_take_iff_getElem]
    exact ⟨j, by omega, rfl⟩
  exact place_in' hm
theorem ncells_take (ns : List Nd) (k : Nat) : (ncells ns).take (k * 3) = ncells (ns.take k) := by
  induction ns generalizing k with
  | nil => simp [ncells]
  | cons n r ih =>
    cases k with
    | zero => simp [ncells]
    | succ k =>
      rw [ncells_cons, show (k + 1) * 3 = k * 3 + 1 + 1 + 1 by omega, List.take_succ_cons, List.take_succ_cons, List.take_succ_cons, ih, List.take_succ_cons, ncells_cons]
theorem cells_take {w : World} {a : Option Addr} {cs : List Value} (h : CellsAt w a cs) (m : Nat) : CellsAt w a (cs.take m) := by
  rcases h with rfl | ⟨b, off, rfl, hc⟩
  · exact .inl (by simp)
  · refine .inr ⟨b, off, rfl, fun j hj => ?_⟩
    simp at hj
    rw [hc j (by omega), List.getElem?_take, if_pos (by omega)]

set_option maxRecDepth 100000 in
set_option maxHeartbeats 4000000 in
theorem specChainValid_calls (view : Int) (a : Option Addr) (cap : Nat) (ns : List Nd) (w : World) (hm : ns.length ≤ 1099511627776) (hc : ns.length ≤ cap) (hs : Short ns 1099511627776) (hx : NodesAt w a ns) :
    Calls Tryd.prog 51 #[.agg #[.int .i64 view, .slice a ns.length cap]] w fun e w' => e = .returned (.bool (chainOk view ns)) ∧ Below w.heap.size w w' := by
  have s0 := (St.start w).alloc (.cells #[.int .i64 view, .slice a ns.length cap] 40)
  have GOOD := Lib.hid (fun h1 h2 hst ht => chainOk_yes (view := view) (ns := ns) ⟨h1, h2, hst, ht⟩)
  go_enter Tryd.func51, Tryd.ntmps51
  go_wp2_with fail
  go_loopw [3] (fun i wr => ∃ k : Nat, k ≤ ns.length ∧ i = .int .i64 k ∧ (∀ i, i < k → stepP ns i) ∧ (k = ns.length → tailP ns) ∧ St w wr [box w.heap.size #[.int .i64 view, .slice a ns.length cap] 40]) (fun i _ => ns.length - (intOf i).toNat)
  case atStart =>
    refine ⟨0, Nat.zero_le _, rfl, by intro j hj; omega, fun h => ?_, s0⟩
    have : ns = [] := List.eq_nil_of_length_eq_zero h.symm
    rw [this]; rfl
  case round =>
    clear s0
    obtain ⟨k, hk, rfl, hst, htl, s1⟩ := hrel
    have HST := Lib.hid hst
    have HTL := Lib.hid htl
    clear hst htl
    obtain ⟨x1, _⟩ := s1.cells
    by_cases hlt : k < ns.length
    · obtain ⟨b, off, rfl, c0, c1, c2⟩ := (hx.below s1.below).cells k hlt
      have HU' := Lib.hid (fun W (h : Below w.heap.size w W) => ((hx.2.below h).at hlt).1)
      have hmk := hs.at hlt
      have i1 : (0 : Int) ≤ (k : Int) := by omega
      have i2 : (k : Int) < (ns.length : Int) := by omega
      have i3 : (k : Int) ≤ (cap : Int) := by omega
      have LT := Lib.hid (fun W (h : Below w.heap.size w W) => by
        have := cells_take (hx.below h).1 (k * 3)
        rw [ncells_take] at this
        exact this)
      rcases hN : nd ns k with ⟨p, y, c, us, q⟩
      have SI := Lib.hid (stepP_at hN)
      have HU : Hid (∀ W, Below w.heap.size w W → UpdsAt W y us) := Lib.hid (by have := HU'.out; rw [hN] at this; exact this)
      clear HU'
      rw [hN] at c0 c1 c2 hmk
      dsimp only at c0 c1 c2 hmk SI
      have BAD := Lib.hid (fun h => chain_step (view := view) hlt h)
      have NK := Lib.hid hN
      have LEN := Lib.hid (show k = (ns.take k).length by simp; omega)
      have s2 := s1.alloc (.cells #[.int .i64 p, .slice y us.length c, .int .i64 q] 44)
      clear hN
      go_wp2_with fail
      have hB := s2.lt.2
      have hX := s2.drop.lt.2
      obtain ⟨c3, _⟩ := s2.cells
      obtain ⟨x3, _⟩ := s2.drop.cells
      generalize wr.alloc (.cells #[.int .i64 p, .slice y us.length c, .int .i64 q] 44 (0, 0)) = wq at *
      generalize wr.heap.size = B at *
      have k0 := c3 0
      have k1 := c3 1
      have k2 := c3 2
      have k3 := x3 1
      simp at k0 k1 k2 k3
      clear c3 x3 x1 c0 c1 c2
      cases hv : nodeOk p us q with
      | false =>
        have F := Lib.hid (BAD.out (fun h => by have := (SI.out.1 h).1; rw [hv] at this; cases this))
        have HV := Lib.hid hv
        clear hv
        have g0 := grow_cell k0
        have g1 := grow_cell k1
        have g2 := grow_cell k2
        have g3 := grow_cell k3
        have hBg := grow_below (W := wq)
        have HG := Lib.hid (fun x : Grown wq => s2.call (grow_below x))
        have NV := Lib.hid (fun x : Grown wq => specNodeValid_calls y c p q us (grow wq x) hmk (HU.out _ (HG.out x).below))
        rw [HV.out] at NV
        refine wp_region_grow (by kernel_rfl) (by kernel_rfl) ?_
        repeat (go_big_quiet_step ((go_at_call 71; exact Calls.grow_of (NV.out _))))
        refine wpQuiet_nil ?_
        rintro _ ⟨x, rfl⟩
        go_wp2_with fail
        go_ret
        exact ⟨by rw [F.out]; rfl, (HG.out x).below⟩
      | true =>
        have HV := Lib.hid hv
        have LK := Lib.hid (nodeOk_parts hv).2.1
        clear hv
        have g0 := grow_cell k0
        have g1 := grow_cell k1
        have g2 := grow_cell k2
        have g3 := grow_cell k3
        have HG := Lib.hid (fun x : Grown wq => s2.call (grow_below x))
        have NV := Lib.hid (fun x : Grown wq => specNodeValid_calls y c p q us (grow wq x) hmk (HU.out _ (HG.out x).below))
        rw [HV.out] at NV
        have L4 := Lib.hid (fun x : Grown wq => l4Has_calls (some ⟨b, off, none⟩) cap (ns.take k) p k (grow wq x) LEN.out (by omega) (LT.out _ (HG.out x).below))
        by_cases hd : ∀ j, j < k → (nd ns j).id ≠ p
        · rw [has_first hd] at L4
          have HD := Lib.hid hd
          clear hd
          refine wp_region_grow (by kernel_rfl) (by kernel_rfl) ?_
          repeat (go_big_quiet_step ((first | (go_at_call 71; exact Calls.grow_of (NV.out _)) | (go_at_call 72; exact Calls.grow_same (L4.out _)))))
          refine wpQuiet_nil ?_
          rintro _ ⟨x, rfl⟩
          have s5 := HG.out x
          have k0 := g0 x
          have k1 := g1 x
          have k2 := g2 x
          have k3 := g3 x
          clear g0 g1 g2 g3 HG NV L4 s2
          generalize grow wq x = wr5 at *
          clear x
          by_cases hz : k = 0
          · have hz1 : decide ((0 : Int) < (k : Int)) = false := by simp; omega
            have hz2 : decide (0 < k) = false := by simp; omega
            have SK := Lib.hid (SI.out.2 ⟨HV.out, HD.out, by omega⟩)
            clear hz
            go_wp2_with fail
            go_quiet (fail)
            have s9 := s5.drewN nq
            obtain ⟨c9, _⟩ := s9.cells
            obtain ⟨x9, _⟩ := s9.drop.cells
            generalize wr5.drewN nq = w9 at *
            clear s5 k0 k1 k2 k3
            have FIN := Lib.hid (step_all HST.out SK.out)
            by_cases hlast : k + 1 = ns.length
            · have hl9 : ((k : Int) + 1 == (ns.length : Int)) = true := by simp; omega
              by_cases ht : q = us.length
              · have TT : Hid (tailP ns) := Lib.hid (by unfold tailP; rw [show ns.length - 1 = k by omega, NK.out]; exact ht)
                subst ht
                clear hlast
                go_wp2_with fail
                go_roundw
                case rel => exact ⟨k + 1, hlt, by go_num, FIN.out, fun _ => TT.out, s9.drop⟩
                case measure => simp [intOf]; omega
              · have F : Hid (chainOk view ns = false) := Lib.hid (chain_tail fun h => ht (by unfold tailP at h; rw [show ns.length - 1 = k by omega, NK.out] at h; exact h))
                have ht' : (q != (us.length : Int)) = true := by simpa using ht
                clear ht hlast
                go_wp2_with fail
                go_ret
                exact ⟨by rw [F.out]; rfl, s9.below⟩
            · have hl9 : ((k : Int) + 1 == (ns.length : Int)) = false := by simp; omega
              go_wp2_with fail
              go_roundw
              case rel => exact ⟨k + 1, hlt, by go_num, FIN.out, fun h => absurd h hlast, s9.drop⟩
              case measure => simp [intOf]; omega
          · obtain ⟨j, hj⟩ : ∃ j, k = j + 1 := ⟨k - 1, by omega⟩
            have hjl : j < ns.length := by omega
            have ej : (k : Int) - 1 = (j : Int) := by omega
            have ew : IntKind.i64.wrap ((k : Int) - 1) = (j : Int) := by rw [IntKind.wrap_i64] <;> omega
            have j1 : (0 : Int) ≤ (j : Int) := by omega
            have j2 : (j : Int) < (ns.length : Int) := by omega
            obtain ⟨b', off', e', d0, d1, d2⟩ := (hx.below s5.below).cells j hjl
            cases e'
            have HU2 := Lib.hid (fun W (h : Below w.heap.size w W) => ((hx.2.below h).at hjl).1)
            have hmj := hs.at hjl
            rcases hN : nd ns j with ⟨p', y', c', us', q'⟩
            have SI' : Hid (stepP ns k ↔ nodeOk p us q = true ∧ (∀ j, j < k → (nd ns j).id ≠ p) ∧ (0 < k → us <+: us' ∧ q' ≤ q)) := Lib.hid (by
              have := SI.out
              rw [show k - 1 = j by omega, hN] at this
              exact this)
            rw [hN] at d0 d1 d2 HU2 hmj
            dsimp only at d0 d1 d2 HU2 hmj
            have kp : 0 < k := by omega
            clear hN hj hz SI
            have g0 := grow_cell k0
            have g1 := grow_cell k1
            have g2 := grow_cell k2
            have g3 := grow_cell k3
            have g4 := grow_cell d1
            have g5 := grow_cell d2
            have HG := Lib.hid (fun x : Grown wr5 => s5.call (grow_below x))
            have LC := Lib.hid (fun x : Grown wr5 => l1Common_calls y y' c c' us us' (grow wr5 x) hmk hmj (HU.out _ (HG.out x).below) (HU2.out _ (HG.out x).below))
            by_cases hpre : cpl us us' = us.length
            · have PP := Lib.hid (cpl_pre us us' |>.1 hpre)
              rw [hpre] at LC
              by_cases hq : q' ≤ q
              · have SK := Lib.hid (SI'.out.2 ⟨HV.out, HD.out, fun _ => ⟨PP.out, hq⟩⟩)
                clear hpre
                go_wp2_with fail
                refine wp_region_grow (by kernel_rfl) (by kernel_rfl) ?_
                repeat (go_big_quiet_step ((go_at_call 73; exact Calls.grow_of (LC.out _))))
                refine wpQuiet_nil ?_
                rintro _ ⟨x, rfl⟩
                have s9 := HG.out x
                clear g0 g1 g2 g3 g4 g5 HG LC s5 k0 k1 k2 k3 d0 d1 d2
                obtain ⟨c9, _⟩ := s9.cells
                obtain ⟨x9, _⟩ := s9.drop.cells
                generalize grow wr5 x = w9 at *
                clear x
                have FIN := Lib.hid (step_all HST.out SK.out)
                by_cases hlast : k + 1 = ns.length
                · have hl9 : ((k : Int) + 1 == (ns.length : Int)) = true := by simp; omega
                  by_cases ht : q = us.length
                  · have TT : Hid (tailP ns) := Lib.hid (by unfold tailP; rw [show ns.length - 1 = k by omega, NK.out]; exact ht)
                    subst ht
                    clear hlast
                    go_wp2_with fail
                    go_roundw
                    case rel => exact ⟨k + 1, hlt, by go_num, FIN.out, fun _ => TT.out, s9.drop⟩
                    case measure => simp [intOf]; omega
                  · have F : Hid (chainOk view ns = false) := Lib.hid (chain_tail fun h => ht (by unfold tailP at h; rw [show ns.length - 1 = k by omega, NK.out] at h; exact h))
                    have ht' : (q != (us.length : Int)) = true := by simpa using ht
                    clear ht hlast
                    go_wp2_with fail
                    go_ret
                    exact ⟨by rw [F.out]; rfl, s9.below⟩
                · have hl9 : ((k : Int) + 1 == (ns.length : Int)) = false := by simp; omega
                  go_wp2_with fail
                  go_roundw
                  case rel => exact ⟨k + 1, hlt, by go_num, FIN.out, fun h => absurd h hlast, s9.drop⟩
                  case measure => simp [intOf]; omega
              · have F := Lib.hid (BAD.out (fun h => hq ((SI'.out.1 h).2.2 kp).2))
                clear hpre
                go_wp2_with fail
                refine wp_region_grow (by kernel_rfl) (by kernel_rfl) ?_
                repeat (go_big_quiet_step ((go_at_call 73; exact Calls.grow_of (LC.out _))))
                refine wpQuiet_nil ?_
                rintro _ ⟨x, rfl⟩
                go_wp2_with fail
                go_ret
                exact ⟨by rw [F.out]; rfl, (HG.out x).below⟩
            · have F := Lib.hid (BAD.out (fun h => hpre ((cpl_pre us us').2 ((SI'.out.1 h).2.2 kp).1)))
              have hlt' : cpl us us' < us.length := by have := cpl_le us us'; omega
              generalize cpl us us' = z at *
              clear hpre
              go_wp2_with fail
              refine wp_region_grow (by kernel_rfl) (by kernel_rfl) ?_
              repeat (go_big_quiet_step ((go_at_call 73; exact Calls.grow_of (LC.out _))))
              refine wpQuiet_nil ?_
              rintro _ ⟨x, rfl⟩
              go_wp2_with fail
              go_ret
              exact ⟨by rw [F.out]; rfl, (HG.out x).below⟩
        · rw [has_again hk hd] at L4
          have F := Lib.hid (BAD.out (fun h => hd (SI.out.1 h).2.1))
          clear hd
          refine wp_region_grow (by kernel_rfl) (by kernel_rfl) ?_
          repeat (go_big_quiet_step ((first | (go_at_call 71; exact Calls.grow_of (NV.out _)) | (go_at_call 72; exact Calls.grow_same (L4.out _)))))
          refine wpQuiet_nil ?_
          rintro _ ⟨x, rfl⟩
          go_wp2_with fail
          go_ret
          exact ⟨by rw [F.out]; rfl, (HG.out x).below⟩
    · have hkn : k = ns.length := by omega
      have G := Lib.hid (fun h1 h2 => GOOD.out h1 h2 (by rw [← hkn]; exact HST.out) (HTL.out hkn))
      by_cases h2 : 1 ≤ ns.length ∧ ns.length ≤ 5
      · have h2' : (1 : Int) ≤ (ns.length : Int) ∧ (ns.length : Int) ≤ 5 := by omega
        have H2 := Lib.hid h2'
        by_cases h1 : 0 ≤ view ∧ view ≤ 999
        · have H1 := Lib.hid h1
          have F := Lib.hid (G.out h1 h2)
          clear h1 h2 h2' hkn
          go_wp2_with fail
          refine (l6In_yes _ _ _ _ H2.out).mono ?_
          rintro e w' ⟨rfl, rfl⟩
          go_wp2_with fail
          refine (l6In_yes _ _ _ _ H1.out).mono ?_
          rintro e w' ⟨rfl, rfl⟩
          go_wp2_with fail
          go_ret
          exact ⟨by rw [F.out]; rfl, s1.below⟩
        · have H1 := Lib.hid h1
          have F := Lib.hid (chain_view (ns := ns) h1)
          clear h1 h2 h2' hkn
          go_wp2_with fail
          refine (l6In_yes _ _ _ _ H2.out).mono ?_
          rintro e w' ⟨rfl, rfl⟩
          go_wp2_with fail
          refine (l6In_no _ _ _ _ H1.out).mono ?_
          rintro e w' ⟨rfl, rfl⟩
          go_wp2_with fail
          go_ret
          exact ⟨by rw [F.out]; rfl, s1.below⟩
      · have h2' : ¬ ((1 : Int) ≤ (ns.length : Int) ∧ (ns.length : Int) ≤ 5) := by omega
        have H2 := Lib.hid h2'
        have F := Lib.hid (chain_len (view := view) h2)
        clear h2 h2' hkn
        go_wp2_with fail
        refine (l6In_no _ _ _ _ H2.out).mono ?_
        rintro e w' ⟨rfl, rfl⟩
        go_wp2_with fail
        go_ret
        exact ⟨by rw [F.out]; rfl, s1.below⟩

end Go.Proofs.YtebklbncfcdkmaaDoor
