
/-
  The walks of who is alive, of whether there is a plan, and of PlanLost. No statement is proved here.
-/
import Derived.Test.YtebklbncfcdkmaaX9
namespace Go.Proofs.Ytebklbncfcdkmaa
open Go.RowKit

def planOk (ps ss ds : List Int) (m : Int) : Bool := piecesOk ps && serversOk ss && serversOk ds && decide (1 ≤ m ∧ m ≤ (goneP ss ds).length)
def aliveR (ps ss ds : List Int) (m : Int) : List Int := if planOk ps ss ds m then goneP ss ds else []
theorem planOk_iff {ps ss ds : List Int} {m : Int} : planOk ps ss ds m = true ↔ (ps.length ≤ 12 ∧ ascFrom 0 ps = true) ∧ (ss.length ≤ 8 ∧ ascFrom 0 ss = true) ∧ (ds.length ≤ 8 ∧ ascFrom 0 ds = true) ∧ 1 ≤ m ∧ m ≤ (goneP ss ds).length := by
  simp only [planOk, piecesOk, serversOk, Bool.and_eq_true, decide_eq_true_eq, and_assoc]
theorem plan_place {ps ss ds : List Int} {m p : Int} (h : planOk ps ss ds m = true) (hp : p ∈ ps) : placeOk p ss m = true := by
  obtain ⟨⟨_, h1⟩, h2, _, h4, h5⟩ := planOk_iff.1 h
  refine placeOk_iff.2 ⟨asc_valid h1 p hp, h2, h4, Int.le_trans h5 ?_⟩
  have := goneP_len ss ds
  omega
theorem no_of {b : Bool} {P : Prop} (h : b = true → P) (hp : ¬ P) : b = false := by
  cases b with
  | false => rfl
  | true => exact absurd (h rfl) hp

set_option maxHeartbeats 4000000 in
theorem l31Alive_calls (a : Option Addr) (cap : Nat) (xs : List Int) (b : Option Addr) (cap' : Nat) (ys : List Int) (w : World) (hm : xs.length ≤ 100) (hm' : ys.length ≤ 100) (hx : IntsAt w a xs) (hy : IntsAt w b ys) :
    Calls Try.prog 31 #[.slice a xs.length cap, .slice b ys.length cap'] w (MadeInts w (goneP xs ys)) := by
  have s1 := ((St.start w).alloc (.cells #[] 3)).madeRow 1 0 rfl (by simp [maxLen]) 0 (Nat.le_refl _)
  simp only [List.take_nil] at s1
  go_enter Try.func31, Try.ntmps31
  go_wp2_with fail
  generalize hw1 : w.alloc (.cells #[] 3 (0, 0)) = w1 at *
  generalize w.heap.size = B at s1
  clear hw1
  go_loopw [5, 6] (fun v i wr => ∃ (k : Nat), k ≤ xs.length ∧ i = .int .i64 k ∧ St w wr [row v 3 1 (goneP (xs.take k) ys).length ((goneP (xs.take k) ys).map (Value.int .i64))]) (fun _ i _ => xs.length - (intOf i).toNat)
  case atStart => exact ⟨0, Nat.zero_le _, rfl, s1⟩
  case round =>
    clear s1
    obtain ⟨k, hk, rfl, s2⟩ := hrel
    by_cases hlt : k < xs.length
    · rcases hx.below s2.below with rfl | ⟨bk, off, rfl, hc⟩
      · simp at hlt
      have hcell : wr.cell? ⟨bk, off + k, none⟩ = some (.int .i64 xs[k]) := by
        have := hc k hlt
        simpa [hlt] using this
      have i1 : (0 : Int) ≤ (k : Int) := by omega
      have i2 : (k : Int) < (xs.length : Int) := by omega
      have TS := Lib.hid (take_snocI hlt)
      have hgl : (goneP (xs.take k) ys).length ≤ 100 := by
        have := goneP_len (xs.take k) ys
        simp at this; omega
      have PL1 := l13Place_calls b cap' ys xs[k] wr (by omega) (hy.below s2.below)
      clear hc
      generalize xs[k] = x at *
      by_cases hin : x ∈ ys
      · obtain ⟨j, hj⟩ := place_in hin
        rw [hj] at PL1
        have PL2 := Lib.hid PL1
        have GO := Lib.hid (show goneP (xs.take (k + 1)) ys = goneP (xs.take k) ys by rw [TS.out, goneP_snoc_in hin])
        clear hin PL1 hj
        go_wp2_with fail
        with_reducible refine PL2.out.mono ?_
        rintro e w' ⟨rfl, rfl⟩
        go_wp2_with fail
        go_roundw
        case rel => exact ⟨k + 1, hlt, by go_num, by rw [GO.out]; exact s2⟩
        case measure => simp [intOf]; omega
      · rw [place_out hin] at PL1
        have PL2 := Lib.hid PL1
        have GO := Lib.hid (show goneP (xs.take (k + 1)) ys = goneP (xs.take k) ys ++ [x] by rw [TS.out, goneP_snoc_out hin])
        clear hin PL1
        generalize goneP (xs.take k) ys = zs at *
        have o3 := s2.own
        have lR := s2.size
        go_wp2_with fail
        with_reducible refine PL2.out.mono ?_
        rintro e w' ⟨rfl, rfl⟩
        go_wp2_with ((at_builtin; refine list_app elem_int (by rfl) _ _ (by rfl) w.heap.size u5 zs.length (zs.map (Value.int .i64)) (by rfl) wr.heap.size 1 1 (by rfl) #[.int .i64 x] 3 (0, 0) (by rfl) (by simp [Value.oneCell']) (by omega) (by omega) (by omega) (heap_alloc_new wr _) (o3.alloc _) (by simp; omega) ?_); intro gg cap3 w7 hown hgrow hat hl)
        have s7 := s2.app (World.grownBy_alloc wr _ none) hown hgrow hat hl
        clear hown hgrow hat hl s2 o3
        go_wp2_with fail
        go_roundw
        case rel => exact ⟨k + 1, hlt, by go_num, by rw [GO.out]; simpa using s7⟩
        case measure => simp [intOf]; omega
    · rw [List.take_of_length_le (by omega)] at s2
      obtain ⟨va, vc, rfl, _⟩ := s2.ints
      have FIN := Lib.hid (show MadeInts w (goneP xs ys) (.returned (.slice va (goneP xs ys).length vc)) wr from ⟨va, vc, rfl, s2.own, s2.below⟩)
      clear s2
      go_wp2_with fail
      go_ret
      exact FIN.out

set_option maxHeartbeats 4000000 in
theorem planAlive_calls (a : Option Addr) (ca : Nat) (ps : List Int) (b : Option Addr) (cb : Nat) (ss : List Int) (c : Option Addr) (cc : Nat) (ds : List Int) (m : Int) (w : World)
    (h1 : ps.length ≤ 1099511627776) (h2 : ss.length ≤ 1099511627776) (h3 : ds.length ≤ 1099511627776) (hp : IntsAt w a ps) (hs : IntsAt w b ss) (hd : IntsAt w c ds) :
    Calls Try.prog 13 #[.slice a ps.length ca, .slice b ss.length cb, .slice c ds.length cc, .int .i64 m] w (GaveInts w (aliveR ps ss ds m) (planOk ps ss ds m)) := by
  have NO : Hid (planOk ps ss ds m = false → GaveInts w (aliveR ps ss ds m) (planOk ps ss ds m) (.returned (.tuple #[.slice none 0 0, .bool false])) w) := Lib.hid fun h =>
    gaveInts (rs := []) (ys := []) ((St.start w).nilRow 3 1) (by rw [aliveR, h]; rfl) h
  have PA := Lib.hid (idsAscend_calls a ca ps w h1 hp)
  have SS := Lib.hid (impl_servers b cb ss w h2 hs)
  have DS := Lib.hid (impl_servers c cc ds w h3 hd)
  have ITF := Lib.hid (planOk_iff (ps := ps) (ss := ss) (ds := ds) (m := m))
  by_cases hl : ps.length ≤ 12
  · cases e1 : ascFrom 0 ps with
    | false =>
      have F := Lib.hid (NO.out (no_of ITF.out.1 (by rw [e1]; simp)))
      rw [e1] at PA
      go_enter Try.func13, Try.ntmps13
      go_wp2_with fail
      with_reducible refine PA.out.mono ?_
      rintro e w' ⟨rfl, rfl⟩
      go_wp2_with fail
      go_ret2
      exact F.out
    | true =>
      cases e2 : serversOk ss with
      | false =>
        have F := Lib.hid (NO.out (by rw [planOk, e2]; simp))
        rw [e1] at PA; rw [e2] at SS
        go_enter Try.func13, Try.ntmps13
        go_wp2_with fail
        with_reducible refine PA.out.mono ?_
        rintro e w' ⟨rfl, rfl⟩
        go_wp2_with fail
        with_reducible refine SS.out.mono ?_
        rintro e w' ⟨rfl, rfl⟩
        go_wp2_with fail
        go_ret2
        exact F.out
      | true =>
        cases e3 : serversOk ds with
        | false =>
          have F := Lib.hid (NO.out (by rw [planOk, e3]; simp))
          rw [e1] at PA; rw [e2] at SS; rw [e3] at DS
          go_enter Try.func13, Try.ntmps13
          go_wp2_with fail
          with_reducible refine PA.out.mono ?_
          rintro e w' ⟨rfl, rfl⟩
          go_wp2_with fail
          with_reducible refine SS.out.mono ?_
          rintro e w' ⟨rfl, rfl⟩
          go_wp2_with fail
          with_reducible refine DS.out.mono ?_
          rintro e w' ⟨rfl, rfl⟩
          go_wp2_with fail
          go_ret2
          exact F.out
        | true =>
          obtain ⟨k1, k2⟩ := (show ss.length ≤ 8 ∧ ascFrom 0 ss = true by simpa [serversOk] using e2)
          obtain ⟨k3, k4⟩ := (show ds.length ≤ 8 ∧ ascFrom 0 ds = true by simpa [serversOk] using e3)
          have WO := Lib.hid (without_calls b cb ss c cc ds w (by omega) (by omega) hs hd (asc_valid k2))
          have hgl : (goneP ss ds).length ≤ 8 := Nat.le_trans (goneP_len _ _) k1
          have FN : Hid (∀ w', Below w.heap.size w w' → planOk ps ss ds m = false → GaveInts w (aliveR ps ss ds m) (planOk ps ss ds m) (.returned (.tuple #[.slice none 0 0, .bool false])) w') := Lib.hid fun w' hb h =>
            gaveInts (rs := []) (ys := []) (((St.start w).call hb).nilRow 3 1) (by rw [aliveR, h]; rfl) h
          rw [e1] at PA; rw [e2] at SS; rw [e3] at DS
          have K2 := Lib.hid k2; have K4 := Lib.hid k4
          clear k2 k4 NO
          by_cases hm : 1 ≤ m ∧ m ≤ (goneP ss ds).length
          · have YES := Lib.hid (ITF.out.2 ⟨⟨hl, e1⟩, ⟨k1, K2.out⟩, ⟨k3, K4.out⟩, hm⟩)
            have AL : Hid (aliveR ps ss ds m = goneP ss ds) := Lib.hid (by rw [aliveR, YES.out]; rfl)
            have m1 : decide (m < 1) = false := decide_eq_false (by omega)
            have m2 : decide (((goneP ss ds).length : Int) < m) = false := decide_eq_false (by omega)
            clear hm e1 e2 e3 FN ITF
            go_enter Try.func13, Try.ntmps13
            go_wp2_with fail
            with_reducible refine PA.out.mono ?_
            rintro e w' ⟨rfl, rfl⟩
            go_wp2_with fail
            with_reducible refine SS.out.mono ?_
            rintro e w' ⟨rfl, rfl⟩
            go_wp2_with fail
            with_reducible refine DS.out.mono ?_
            rintro e w' ⟨rfl, rfl⟩
            go_wp2_with fail
            with_reducible refine WO.out.mono ?_
            rintro e w1 ⟨va, vc, rfl, ho, hb⟩
            have FIN := Lib.hid (gaveInts ((St.start w).fresh hb ho (Nat.le_refl _)) AL.out YES.out)
            clear ho hb
            go_wp2_with fail
            go_ret2
            exact FIN.out
          · have F := Lib.hid (fun w' hb => FN.out w' hb (no_of ITF.out.1 (fun h => hm h.2.2.2)))
            clear e1 e2 e3 FN ITF
            by_cases m1 : m < 1
            · have m1' : decide (m < 1) = true := decide_eq_true m1
              clear hm
              go_enter Try.func13, Try.ntmps13
              go_wp2_with fail
              with_reducible refine PA.out.mono ?_
              rintro e w' ⟨rfl, rfl⟩
              go_wp2_with fail
              with_reducible refine SS.out.mono ?_
              rintro e w' ⟨rfl, rfl⟩
              go_wp2_with fail
              with_reducible refine DS.out.mono ?_
              rintro e w' ⟨rfl, rfl⟩
              go_wp2_with fail
              with_reducible refine WO.out.mono ?_
              rintro e w1 ⟨va, vc, rfl, ho, hb⟩
              have FIN := Lib.hid (F.out _ hb)
              clear ho hb
              go_wp2_with fail
              go_ret2
              exact FIN.out
            · have m1' : decide (m < 1) = false := decide_eq_false m1
              have m2 : decide (((goneP ss ds).length : Int) < m) = true := decide_eq_true (by omega)
              clear hm
              go_enter Try.func13, Try.ntmps13
              go_wp2_with fail
              with_reducible refine PA.out.mono ?_
              rintro e w' ⟨rfl, rfl⟩
              go_wp2_with fail
              with_reducible refine SS.out.mono ?_
              rintro e w' ⟨rfl, rfl⟩
              go_wp2_with fail
              with_reducible refine DS.out.mono ?_
              rintro e w' ⟨rfl, rfl⟩
              go_wp2_with fail
              with_reducible refine WO.out.mono ?_
              rintro e w1 ⟨va, vc, rfl, ho, hb⟩
              have FIN := Lib.hid (F.out _ hb)
              clear ho hb
              go_wp2_with fail
              go_ret2
              exact FIN.out
  · have F := Lib.hid (NO.out (no_of ITF.out.1 (fun h => hl h.1.1)))
    go_enter Try.func13, Try.ntmps13
    go_wp2_with fail
    go_ret2
    exact F.out

set_option maxHeartbeats 4000000 in
theorem l31Ok_calls (a : Option Addr) (ca : Nat) (ps : List Int) (b : Option Addr) (cb : Nat) (ss : List Int) (c : Option Addr) (cc : Nat) (ds : List Int) (m : Int) (w : World)
    (h1 : ps.length ≤ 1099511627776) (h2 : ss.length ≤ 1099511627776) (h3 : ds.length ≤ 1099511627776) (hp : IntsAt w a ps) (hs : IntsAt w b ss) (hd : IntsAt w c ds) :
    Calls Try.prog 16 #[.slice a ps.length ca, .slice b ss.length cb, .slice c ds.length cc, .int .i64 m] w fun e w' => e = .returned (.bool (planOk ps ss ds m)) ∧ Below w.heap.size w w' := by
  have PA := Lib.hid (spec_pieces a ca ps w h1 hp)
  cases e1 : piecesOk ps with
  | false =>
    have N : Hid (planOk ps ss ds m = false) := Lib.hid (by rw [planOk, e1]; simp)
    rw [e1] at PA
    go_enter Try.func16, Try.ntmps16
    go_wp2_with fail
    with_reducible refine PA.out.mono ?_
    rintro e w1 ⟨rfl, hb1⟩
    go_wp2_with fail
    go_ret
    exact ⟨by rw [N.out]; rfl, hb1⟩
  | true =>
    rw [e1] at PA
    cases e2 : serversOk ss with
    | false =>
      have N : Hid (planOk ps ss ds m = false) := Lib.hid (by rw [planOk, e2]; simp)
      go_enter Try.func16, Try.ntmps16
      go_wp2_with fail
      with_reducible refine PA.out.mono ?_
      rintro e w1 ⟨rfl, hb1⟩
      go_wp2_with fail
      with_reducible refine (spec_servers b cb ss w1 h2 (hs.below hb1)).mono ?_
      rw [e2]
      rintro e w2 ⟨rfl, hb2⟩
      go_wp2_with fail
      go_ret
      exact ⟨by rw [N.out]; rfl, hb1.trans (hb2.mono hb1.size)⟩
    | true =>
      cases e3 : serversOk ds with
      | false =>
        have N : Hid (planOk ps ss ds m = false) := Lib.hid (by rw [planOk, e3]; simp)
        go_enter Try.func16, Try.ntmps16
        go_wp2_with fail
        with_reducible refine PA.out.mono ?_
        rintro e w1 ⟨rfl, hb1⟩
        go_wp2_with fail
        with_reducible refine (spec_servers b cb ss w1 h2 (hs.below hb1)).mono ?_
        rw [e2]
        rintro e w2 ⟨rfl, hb2⟩
        have hb := hb1.trans (hb2.mono hb1.size)
        clear hb1 hb2
        go_wp2_with fail
        with_reducible refine (spec_servers c cc ds w2 h3 (hd.below hb)).mono ?_
        rw [e3]
        rintro e w3 ⟨rfl, hb3⟩
        go_wp2_with fail
        go_ret
        exact ⟨by rw [N.out]; rfl, hb.trans (hb3.mono hb.size)⟩
      | true =>
        obtain ⟨k1, k2⟩ := (show ss.length ≤ 8 ∧ ascFrom 0 ss = true by simpa [serversOk] using e2)
        obtain ⟨k3, k4⟩ := (show ds.length ≤ 8 ∧ ascFrom 0 ds = true by simpa [serversOk] using e3)
        have hgl : (goneP ss ds).length ≤ 8 := Nat.le_trans (goneP_len _ _) k1
        have LI := Lib.hid (fun w => l6In_calls m 1 (goneP ss ds).length w)
        have N : Hid (planOk ps ss ds m = decide (1 ≤ m ∧ m ≤ ((goneP ss ds).length : Nat))) := Lib.hid (by rw [planOk, e1, e2, e3]; simp)
        clear k2 k4
        go_enter Try.func16, Try.ntmps16
        go_wp2_with fail
        with_reducible refine PA.out.mono ?_
        rintro e w1 ⟨rfl, hb1⟩
        go_wp2_with fail
        with_reducible refine (spec_servers b cb ss w1 h2 (hs.below hb1)).mono ?_
        rw [e2]
        rintro e w2 ⟨rfl, hb2⟩
        have hb := hb1.trans (hb2.mono hb1.size)
        clear hb1 hb2
        go_wp2_with fail
        with_reducible refine (spec_servers c cc ds w2 h3 (hd.below hb)).mono ?_
        rw [e3]
        rintro e w3 ⟨rfl, hb3⟩
        have hb4 := hb.trans (hb3.mono hb.size)
        clear hb hb3
        go_wp2_with fail
        with_reducible refine (l31Alive_calls b cb ss c cc ds w3 (by omega) (by omega) (hs.below hb4) (hd.below hb4)).mono ?_
        rintro e w4 ⟨va, vc, rfl, _, hb5⟩
        have hb6 := hb4.trans (hb5.mono hb4.size)
        clear hb4 hb5
        generalize (goneP ss ds).length = L at *
        go_wp2_with fail
        with_reducible refine (LI.out _).mono ?_
        rintro e w5 ⟨rfl, rfl⟩
        go_wp2_with fail
        go_ret
        exact ⟨by rw [N.out, Bool.decide_and]; rfl, hb6⟩

end Go.Proofs.Ytebklbncfcdkmaa
