
/-
  The walk of ChainValid. No statement is proved here.
-/
import Derived.Test.YtebklbncfcdkmaaDoorC2
namespace Go.Proofs.YtebklbncfcdkmaaDoor
open Go.RowKit

theorem chain_view {view : Int} {ns : List Nd} (h : ¬ (0 ≤ view ∧ view ≤ 999)) : chainOk view ns = false := chainOk_not fun hc => h hc.1
theorem chain_len {view : Int} {ns : List Nd} (h : ¬ (1 ≤ ns.length ∧ ns.length ≤ 5)) : chainOk view ns = false := chainOk_not fun hc => h hc.2.1
theorem chain_step {view : Int} {ns : List Nd} {k : Nat} (hk : k < ns.length) (h : ¬ stepP ns k) : chainOk view ns = false := chainOk_not fun hc => h (hc.2.2.1 k hk)
theorem chain_tail {view : Int} {ns : List Nd} (h : ¬ tailP ns) : chainOk view ns = false := chainOk_not fun hc => h hc.2.2.2
theorem stepP_at {ns : List Nd} {k : Nat} {n : Nd} (h : nd ns k = n) : stepP ns k ↔ nodeOk n.id n.us n.done = true ∧ (∀ j, j < k → (nd ns j).id ≠ n.id) ∧ (0 < k → n.us <+: (nd ns (k - 1)).us ∧ (nd ns (k - 1)).done ≤ n.done) := by
  subst h; exact Iff.rfl
theorem step_all {ns : List Nd} {k : Nat} (h : ∀ i, i < k → stepP ns i) (hk : stepP ns k) : ∀ i, i < k + 1 → stepP ns i := fun i hi => by
  by_cases e : i = k
  · rw [e]; exact hk
  · exact h i (by omega)
theorem place_in' {xs : List Int} {n : Int} (h : n ∈ xs) : 0 ≤ place xs n := by rw [place, if_pos h]; omega
theorem cplace_before {ns : List Nd} {k : Nat} {x : Int} (hk : k < ns.length) (he : (nd ns k).id = x) (h : ¬ ∀ j, j < k → (nd ns j).id ≠ x) : 0 ≤ cplace ns x ∧ cplace ns x < k := by
  have h1 : ∃ j, j < k ∧ (nd ns j).id = x := by
    apply Classical.byContradiction
    intro hc
    exact h fun j hj e => hc ⟨j, hj, e⟩
  obtain ⟨j, hj, e⟩ := h1
  have hl := place_lt (ns.map Nd.id) k (by simpa using hk)
  have ex : (ns.map Nd.id)[k]'(by simpa using hk) = x := by rw [← he, nd_eq hk]; simp
  rw [ex] at hl
  refine ⟨hl.2, hl.1.2 ?_⟩
  rw [← e, nd_eq (by omega)]
  rw [List.mem_take_iff_getElem]
  exact ⟨j, by simp; omega, by simp⟩

/-- Short logs. -/
def Short (ns : List Nd) (m : Nat) : Prop := ∀ n ∈ ns, n.us.length ≤ m
theorem Short.at {ns : List Nd} {m : Nat} (h : Short ns m) {j : Nat} (hj : j < ns.length) : (nd ns j).us.length ≤ m := by rw [nd_eq hj]; exact h _ (List.getElem_mem hj)

set_option maxHeartbeats 4000000 in
theorem chainValid_calls (view : Int) (a : Option Addr) (cap : Nat) (ns : List Nd) (w : World) (hm : ns.length ≤ 1099511627776) (hs : Short ns 1099511627776) (hx : NodesAt w a ns) :
    Calls Tryd.prog 50 #[.agg #[.int .i64 view, .slice a ns.length cap]] w fun e w' => e = .returned (.bool (chainOk view ns)) ∧ Below w.heap.size w w' := by
  have s0 := (St.start w).alloc (.cells #[.int .i64 view, .slice a ns.length cap] 40)
  by_cases h1 : 0 ≤ view
  · by_cases h2 : view ≤ 999
    · by_cases h3 : 1 ≤ ns.length
      · by_cases h4 : ns.length ≤ 5
        · have GOOD := Lib.hid (fun hst ht => chainOk_yes (view := view) (ns := ns) ⟨⟨h1, h2⟩, ⟨h3, h4⟩, hst, ht⟩)
          go_enter Tryd.func50, Tryd.ntmps50
          go_wp2_with fail
          go_loopw [30] (fun i wr => ∃ k : Nat, k ≤ ns.length ∧ i = .int .i64 k ∧ (∀ i, i < k → stepP ns i) ∧ St w wr [box w.heap.size #[.int .i64 view, .slice a ns.length cap] 40]) (fun i _ => ns.length - (intOf i).toNat)
          case atStart => exact ⟨0, Nat.zero_le _, rfl, by intro j hj; omega, s0⟩
          case round =>
            clear s0
            obtain ⟨k, hk, rfl, hst, s1⟩ := hrel
            have HST := Lib.hid hst
            clear hst
            obtain ⟨x1, _⟩ := s1.cells
            by_cases hlt : k < ns.length
            · obtain ⟨b, off, rfl, c0, c1, c2⟩ := (hx.below s1.below).cells k hlt
              obtain ⟨hu, hcap⟩ := (hx.2.below s1.below).at hlt
              have HU' := Lib.hid (fun W (h : Below w.heap.size w W) => ((hx.2.below h).at hlt).1)
              have hmk := hs.at hlt
              have i1 : (0 : Int) ≤ (k : Int) := by omega
              have i2 : (k : Int) < (ns.length : Int) := by omega
              rcases hN : nd ns k with ⟨p, y, c, us, q⟩
              have SI := Lib.hid (stepP_at hN)
              have PL := Lib.hid (fun h => cplace_at (x := p) k hlt (by rw [hN]) h)
              have PB := Lib.hid (fun h => cplace_before (x := p) hlt (by rw [hN]) h)
              have HU : Hid (∀ W, Below w.heap.size w W → UpdsAt W y us) := Lib.hid (by have := HU'.out; rw [hN] at this; exact this)
              clear HU'
              rw [hN] at c0 c1 c2 hu hcap hmk
              dsimp only at c0 c1 c2 hu hcap hmk SI
              have BAD := Lib.hid (fun h => chain_step (view := view) hlt h)
              have s2 := s1.alloc (.cells #[.int .i64 p, .slice y us.length c, .int .i64 q] 44)
              clear hN
              cases hv : nodeOk p us q with
              | false =>
                have F := Lib.hid (BAD.out (fun h => by have := (SI.out.1 h).1; rw [hv] at this; cases this))
                have HV := Lib.hid hv
                clear hv
                go_wp2_with fail
                refine (nodeValid_calls _ _ _ _ _ _ hmk (HU.out _ s2.below)).mono ?_
                rw [HV.out]
                rintro e w1 ⟨rfl, hb⟩
                go_wp2_with fail
                go_ret
                exact ⟨by rw [F.out]; rfl, (s2.call hb).below⟩
              | true =>
                have HV := Lib.hid hv
                have LK := Lib.hid (nodeOk_parts hv).2.1
                clear hv
                go_wp2_with fail
                refine (nodeValid_calls _ _ _ _ _ _ hmk (HU.out _ s2.below)).mono ?_
                rw [HV.out]
                rintro e w1 ⟨rfl, hb⟩
                have s3 := s2.call hb
                obtain ⟨c3, _⟩ := s3.cells
                obtain ⟨x3, _⟩ := s3.drop.cells
                clear s2 hb x1 c0 c1 c2
                by_cases hd : ∀ j, j < k → (nd ns j).id ≠ p
                · have PE := Lib.hid (PL.out hd)
                  have HD := Lib.hid hd
                  clear hd
                  go_wp2_with fail
                  refine (chainPlace_calls _ _ _ _ _ _ hm (hx.below s3.below)).mono ?_
                  rw [PE.out]
                  rintro e w2 ⟨rfl, hb2⟩
                  have s4 := s3.call hb2
                  obtain ⟨c4, _⟩ := s4.cells
                  obtain ⟨x4, _⟩ := s4.drop.cells
                  clear s3 c3 x3 hb2
                  by_cases hz : k = 0
                  · have hz' : ((k : Int) == 0) = true := by simp [hz]
                    have FIN := Lib.hid (step_all HST.out (SI.out.2 ⟨HV.out, HD.out, by omega⟩))
                    clear hz
                    go_wp2_with fail
                    go_roundw
                    case rel => exact ⟨k + 1, hlt, by go_num, FIN.out, s4.drop⟩
                    case measure => simp [intOf]; omega
                  · have hz' : ((k : Int) == 0) = false := by simp [hz]
                    obtain ⟨j, hj⟩ : ∃ j, k = j + 1 := ⟨k - 1, by omega⟩
                    have hjl : j < ns.length := by omega
                    have ej : (k : Int) - 1 = (j : Int) := by omega
                    have j1 : (0 : Int) ≤ (j : Int) := by omega
                    have j2 : (j : Int) < (ns.length : Int) := by omega
                    obtain ⟨b', off', e', d0, d1, d2⟩ := (hx.below s4.below).cells j hjl
                    cases e'
                    obtain ⟨hu', hcap'⟩ := (hx.2.below s4.below).at hjl
                    have hmj := hs.at hjl
                    have SJ := HST.out j (by omega)
                    rcases hN : nd ns j with ⟨p', y', c', us', q'⟩
                    have LJ : Hid (logOk us' = true) := Lib.hid (by
                      have := (nodeOk_parts SJ.1).2.1
                      rw [hN] at this; exact this)
                    have SI' : Hid (stepP ns k ↔ nodeOk p us q = true ∧ (∀ j, j < k → (nd ns j).id ≠ p) ∧ (0 < k → us <+: us' ∧ q' ≤ q)) := Lib.hid (by
                      have := SI.out
                      rw [show k - 1 = j by omega, hN] at this
                      exact this)
                    rw [hN] at d0 d1 d2 hu' hcap' hmj
                    dsimp only at d0 d1 d2 hu' hcap' hmj
                    have kp : 0 < k := by omega
                    have l4 := s4.lt.2
                    have lx4 := s4.drop.lt.2
                    clear hN SJ hj hz SI
                    have s5 := s4.alloc (.cells #[.int .i64 p', .slice y' us'.length c', .int .i64 q'] 44)
                    go_wp2_with fail
                    refine (logBegins_calls _ _ _ _ us us' _ hmk hmj (HU.out _ (s5.below)) (hu'.below (grown_below (World.grownBy_alloc w2 _ none))) LK.out LJ.out).mono ?_
                    have PI := Lib.hid (preOk_iff (us := us) (vs := us'))
                    cases hpre : preOk us us' with
                    | false =>
                      have F := Lib.hid (BAD.out (fun h => by have := PI.out.2 ((SI'.out.1 h).2.2 kp).1; rw [hpre] at this; cases this))
                      rintro e w3 ⟨rfl, hb3⟩
                      have s6 := s5.call hb3
                      clear s4 s5 hb3
                      go_wp2_with fail
                      go_ret
                      exact ⟨by rw [F.out]; rfl, s6.below⟩
                    | true =>
                      have PP := Lib.hid (PI.out.1 hpre)
                      clear hpre
                      rintro e w3 ⟨rfl, hb3⟩
                      have s6 := s5.call hb3
                      obtain ⟨c6, _⟩ := s6.cells
                      obtain ⟨d6, _⟩ := s6.drop.cells
                      clear s4 s5 hb3 c4 x4
                      by_cases hq : q' ≤ q
                      · have FIN := Lib.hid (step_all HST.out (SI'.out.2 ⟨HV.out, HD.out, fun _ => ⟨PP.out, hq⟩⟩))
                        go_wp2_with fail
                        go_roundw
                        case rel => exact ⟨k + 1, hlt, by go_num, FIN.out, s6.drop.drop⟩
                        case measure => simp [intOf]; omega
                      · have F := Lib.hid (BAD.out (fun h => hq ((SI'.out.1 h).2.2 kp).2))
                        go_wp2_with fail
                        go_ret
                        exact ⟨by rw [F.out]; rfl, s6.below⟩
                · have PE := PB.out hd
                  have F := Lib.hid (BAD.out (fun h => hd (SI.out.1 h).2.1))
                  obtain ⟨z, hzE, z0, z1⟩ : ∃ z, cplace ns p = z ∧ 0 ≤ z ∧ z < k := ⟨_, rfl, PE⟩
                  have HZ := Lib.hid hzE
                  clear hzE PE
                  have hz : (z != (k : Int)) = true := by rw [bne_iff_ne]; omega
                  clear hd PL PB
                  go_wp2_with fail
                  refine (chainPlace_calls _ _ _ _ _ _ hm (hx.below s3.below)).mono ?_
                  rw [HZ.out]
                  rintro e w2 ⟨rfl, hb2⟩
                  have s4 := s3.call hb2
                  clear s3 c3 x3 hb2
                  go_wp2_with fail
                  go_ret
                  exact ⟨by rw [F.out]; rfl, s4.below⟩
            · have hkn : k = ns.length := by omega
              have G := Lib.hid (GOOD.out (by rw [← hkn]; exact HST.out))
              have T := Lib.hid (chain_tail (view := view) (ns := ns))
              unfold tailP at G T
              obtain ⟨hu, hcap⟩ := (hx.2.below s1.below).at (show ns.length - 1 < ns.length by omega)
              have TC := Lib.hid (fun W (h : Below w.heap.size w W) => tailOf_calls view a cap ns W hm (by omega) (hx.below h))
              rcases hN : nd ns (ns.length - 1) with ⟨p, y, c, us, q⟩
              rw [hN] at G T TC
              unfold nodeV at TC
              dsimp only at G T TC
              clear hN hkn
              by_cases ht : q = us.length
              · have F := Lib.hid (G.out ht)
                subst ht
                go_wp2_with fail
                refine (TC.out _ s1.below).mono ?_
                rintro e w2 ⟨rfl, hb2⟩
                have s4 := s1.call hb2
                clear s1 hb2
                go_wp2_with fail
                go_ret
                exact ⟨by rw [F.out]; rfl, (s4.alloc _).below⟩
              · have F := Lib.hid (T.out ht)
                have ht' : (q == (us.length : Int)) = false := by simpa using ht
                clear ht
                go_wp2_with fail
                refine (TC.out _ s1.below).mono ?_
                rintro e w2 ⟨rfl, hb2⟩
                have s4 := s1.call hb2
                clear s1 hb2
                go_wp2_with fail
                go_ret
                exact ⟨by rw [F.out]; rfl, (s4.alloc _).below⟩
        · have F := Lib.hid (chain_len (view := view) (ns := ns) (fun h => h4 h.2))
          go_enter Tryd.func50, Tryd.ntmps50
          go_wp2_with fail
          go_ret
          exact ⟨by rw [F.out]; rfl, s0.below⟩
      · have F := Lib.hid (chain_len (view := view) (ns := ns) (fun h => h3 h.1))
        go_enter Tryd.func50, Tryd.ntmps50
        go_wp2_with fail
        go_ret
        exact ⟨by rw [F.out]; rfl, s0.below⟩
    · have F := Lib.hid (chain_view (view := view) (ns := ns) (fun h => h2 h.2))
      go_enter Tryd.func50, Tryd.ntmps50
      go_wp2_with fail
      go_ret
      exact ⟨by rw [F.out]; rfl, s0.below⟩
  · have F := Lib.hid (chain_view (view := view) (ns := ns) (fun h => h1 h.1))
    go_enter Tryd.func50, Tryd.ntmps50
    go_wp2_with fail
    go_ret
    exact ⟨by rw [F.out]; rfl, s0.below⟩

end Go.Proofs.YtebklbncfcdkmaaDoor
