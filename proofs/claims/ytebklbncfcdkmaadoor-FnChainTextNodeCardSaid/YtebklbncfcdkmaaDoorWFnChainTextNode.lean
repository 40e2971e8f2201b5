
/-
  The walk of FnChainTextNode.
-/
import Derived.Test.YtebklbncfcdkmaaDoorC11
import Derived.Test.YtebklbncfcdkmaaDoorC2
import Derived.Test.YtebklbncfcdkmaaDoorMf
import Derived.Test.YtebklbncfcdkmaaDoorY7
import Derived.Test.YtebklbncfcdkmaaDoorYA
import Derived.Test.YtebklbncfcdkmaaDoorOp8
namespace Go.Proofs.YtebklbncfcdkmaaDoor.fnChainTextNode
open Go.RowKit Go.Proofs.YtebklbncfcdkmaaDoor

theorem field_log (x : Value) (a : Option Addr) (n c : Nat) (y : Value) (w : World) : (Instr.field 44 (.agg #[x, .slice a n c, y]) 1).run Tryd.prog w = .ok (.slice a n c) w := by kernel_rfl
theorem node_suffix {view : Int} {ns : List Nd} (hok : chainOk view ns = true) (h9 : (nd ns (ns.length - 1)).us.length ≤ 9) :
    ∃ P, linesT view ns ns.length = P ++ (((([32] ++ logT (nd ns (ns.length - 1)).us) ++ [32]) ++ [UInt8.ofNat (48 + (nd ns (ns.length - 1)).us.length)]) ++ [10]) ∧ 0 < P.length := by
  obtain ⟨_, ⟨h1, _⟩, hst, htl⟩ := chainOk_iff.1 hok
  unfold tailP at htl
  obtain ⟨m, hm⟩ : ∃ m, ns.length = m + 1 := ⟨ns.length - 1, by omega⟩
  rw [hm, show m + 1 - 1 = m by omega] at htl ⊢
  rw [hm, show m + 1 - 1 = m by omega] at h9
  have e : (nd ns m).done.toNat = (nd ns m).us.length := by rw [htl]; simp
  refine ⟨linesT view ns m ++ Lib.decDigits (nd ns m).id.toNat, ?_, ?_⟩
  · rw [linesT, nodeT, e, Lib.decDigits_one (i := (nd ns m).us.length) (by omega)]
    simp
  · obtain ⟨r, hr⟩ := lines_head view ns m
    rw [hr]; simp

set_option maxRecDepth 100000 in
set_option maxHeartbeats 4000000 in
theorem walk (v0 : Value) (w : World) (hL : Pow10 w) (h0 : IsCodeV w v0) :
    Calls Tryd.prog 7 #[v0] w fun e w' => e = .returned (.bool true) ∧ Below w.heap.size w w' := by
  obtain ⟨a0, len0, cap0, z0, rfl, w0⟩ := h0
  have hle := w0.le
  have hby := w0.bytes
  clear w0
  by_cases hbig : len0 ≤ 1048576
  · go_enter Tryd.func7, Tryd.ntmps7
    go_wp2_with fail
    refine (drawChainText_calls _ _ _ _ hle.1 hle.2 hby).mono ?_
    rintro e w1 ⟨view, a, cap, ns, rfl, ⟨hn1, hn5, hcap, hsh⟩, hx, hb1⟩
    have hm : ns.length ≤ 1099511627776 := by omega
    have hsm : Short ns 1099511627776 := fun n hn => Nat.le_trans (hsh n hn) (by omega)
    have HB := Lib.hid (fun W R (k : St w1 W R) => hb1.trans (k.below.mono hb1.size))
    have HX := Lib.hid hx
    have HP := Lib.hid (hL.below hb1)
    have s1 := (St.start w1).alloc (.cells #[.int .i64 view, .slice a ns.length cap] 40)
    have IM := Lib.hid (fun W (h : NodesAt W a ns) (ht : Pow10 W) => chainText_calls view a cap ns W hm hsm h ht)
    have SP := Lib.hid (fun W (h : NodesAt W a ns) => specChainText_calls view a cap ns W hm hcap hsm h)
    have hm' := hm
    clear hby hb1 hsm hsh hx hL hm
    cases hok : chainOk view ns with
    | false =>
      rw [show chainText view ns = [] by simp [chainText, hok]] at SP IM
      clear hok
      go_wp2_with fail
      refine (IM.out _ (HX.out.below s1.below) (HP.out.below s1.below)).mono ?_
      rintro e w2 ⟨rfl, hb2⟩
      have s2 := s1.call hb2
      obtain ⟨c2, _⟩ := s2.cells
      clear s1 hb2
      go_wp2_with fail
      refine (SP.out _ (HX.out.below s2.below)).mono ?_
      rintro e w3 ⟨rfl, hb3⟩
      have s3 := s2.call hb3
      clear s2 hb3 c2
      go_wp2_with fail
      go_ret
      exact ⟨rfl, HB.out _ _ s3⟩
    | true =>
      have hnp : 0 < ns.length := by omega
      have TL := Lib.hid (fun W (h : NodesAt W a ns) => lawTailOf_calls view a cap ns W hm' hnp h)
      unfold nodeV at TL
      have PL := node_suffix hok
      have hll := linesT_length hok ns.length (Nat.le_refl _)
      have LG := Lib.hid (fun W (h : NodesAt W a ns) => (h.2.at (j := ns.length - 1) (by omega)).1)
      have hlk := (chainOk_iff.1 hok).2.2.1 (ns.length - 1) (by omega)
      rw [show chainText view ns = linesT view ns ns.length by simp [chainText, hok]] at SP IM
      obtain ⟨t, ht⟩ : ∃ t, linesT view ns ns.length = t := ⟨_, rfl⟩
      rw [ht] at SP IM hll PL
      have hlg := (nodeOk_parts hlk.1).2.1
      rcases hT : nd ns (ns.length - 1) with ⟨tp, ty, tc, tus, tq⟩
      rw [hT] at TL PL LG hlg
      dsimp only at TL PL LG hlg
      have FD := field_log (.int .i64 tp) ty tus.length tc (.int .i64 tq)
      have hE : t.isEmpty = false := by
        obtain ⟨r, hr⟩ := lines_head view ns ns.length
        rw [← ht, hr]; rfl
      have LT := Lib.hid (fun W (h : UpdsAt W ty tus) => logText_calls ty tc tus W (by have := (logOk_all hlg).1; omega) h)
      rw [show logText tus = logT tus from logText_ok hlg] at LT
      have HLG := Lib.hid hlg
      have h12 := (logOk_all hlg).1
      clear hok ht hT hlk hlg
      go_wp2_with fail
      refine (IM.out _ (HX.out.below s1.below) (HP.out.below s1.below)).mono ?_
      rintro e w2 ⟨rfl, hb2⟩
      have s2 := s1.call hb2
      obtain ⟨c2, _⟩ := s2.cells
      clear s1 hb2
      go_wp2_with fail
      refine (SP.out _ (HX.out.below s2.below)).mono ?_
      rintro e w3 ⟨rfl, hb3⟩
      have s3 := s2.call hb3
      obtain ⟨c3, _⟩ := s3.cells
      clear s2 hb3 c2
      go_wp2_with fail
      refine (TL.out _ (HX.out.below s3.below)).mono ?_
      rintro e w4 ⟨rfl, hb4⟩
      have s4 := s3.call hb4
      obtain ⟨c4, _⟩ := s4.cells
      clear s3 hb4 c3
      by_cases h9 : tus.length ≤ 9
      · have g9 : decide ((9 : Int) < (tus.length : Int)) = false := by simp; omega
        obtain ⟨P, hP, hp0⟩ := PL h9
        have hlt := logT_length tus HLG.out
        obtain ⟨T, hT⟩ : ∃ T, logT tus = T := ⟨_, rfl⟩
        obtain ⟨c, hc⟩ : ∃ c, UInt8.ofNat (48 + tus.length) = c := ⟨_, rfl⟩
        rw [hT] at LT hP hlt
        rw [hc] at hP
        obtain ⟨y1, hy1⟩ : ∃ y, [32] ++ T = y := ⟨_, rfl⟩
        obtain ⟨y2, hy2⟩ : ∃ y, y1 ++ [32] = y := ⟨_, rfl⟩
        obtain ⟨y3, hy3⟩ : ∃ y, y2 ++ [c] = y := ⟨_, rfl⟩
        obtain ⟨y4, hy4⟩ : ∃ y, y3 ++ [10] = y := ⟨_, rfl⟩
        rw [hy1, hy2, hy3, hy4] at hP
        have l1 : y1.length = T.length + 1 := by rw [← hy1]; simp
        have l2 : y2.length = T.length + 2 := by rw [← hy2]; simp [l1]
        have l3 : y3.length = T.length + 3 := by rw [← hy3]; simp [l2]
        have l4 : y4.length = T.length + 4 := by rw [← hy4]; simp [l3]
        have cat1 := cat_to (P := Tryd.prog) hy1 (by omega)
        have cat2 := cat_to (P := Tryd.prog) hy2 (by omega)
        have cat3 := cat_to (P := Tryd.prog) hy3 (by omega)
        have cat4 := cat_to (P := Tryd.prog) hy4 (by omega)
        have hgt : (y4.length : Int) < (t.length : Int) := by rw [hP]; simp; omega
        have hex : ((⟨t.toArray⟩ : ByteArray).extract (t.length - y4.length) t.length).toList = y4 := by
          rw [show (⟨t.toArray⟩ : ByteArray).extract (t.length - y4.length) t.length = ⟨y4.toArray⟩ from ?_]
          · simp
          · rw [hP]
            apply ByteArray.ext
            rw [ByteArray.data_extract]
            apply Array.toList_inj.1
            simp
        have HGT := Lib.hid hgt
        have HEX := Lib.hid hex
        have HC := Lib.hid hc
        have HL4 := Lib.hid l4
        have HLL := Lib.hid hll
        clear hgt hex hp0 hP hc hy1 hy2 hy3 hy4 l1 l2 l3 l4 hT PL
        go_wp2_with fail
        refine (TL.out _ (HX.out.below s4.below)).mono ?_
        rintro e w5 ⟨rfl, hb5⟩
        have s5 := s4.call hb5
        clear s4 hb5 c4
        have s6 := s5.alloc (.cells #[.int .i64 tp, .slice ty tus.length tc, .int .i64 tq] 44)
        go_wp2_with fail
        have HU := Lib.hid (fun W R (k : St w1 W R) => LG.out _ (HX.out.below k.below))
        have GO := Lib.hid (fun W R (k : St w1 W R) => HB.out W R k)
        generalize w5.heap.size = V at *
        generalize w5.alloc (.cells #[.int .i64 tp, .slice ty tus.length tc, .int .i64 tq] 44 (0, 0)) = wq at *
        have v1 := (s6.cells.1 1).trans (show _ = some (Value.slice ty tus.length tc) from rfl)
        obtain ⟨S, hS⟩ := Mix.named (fun w' => w'.cell? ⟨V, 1, none⟩ = some (.slice ty tus.length tc))
        have HS := Lib.hid hS
        have e1 := Mix.held_cell (fun w h => (hS w).1 h)
        clear hS v1
        have SO := Lib.hid (fun W R (k : St w1 W R) (h : box V #[.int .i64 tp, .slice ty tus.length tc, .int .i64 tq] 44 ∈ R) => (HS.out W).2 (k.boxIn h 1 rfl))
        have s7 := s6.drew
        clear s6 s5
        refine Mix.start S 15 (by kernel_rfl) ?_
        generalize wq.drew = w7 at *
        have n9 : (tus.length : Int) ≤ 9 := by omega
        refine Mix.take [0, 1, 5, 6, 7, 8, 9] 8 (by kernel_rfl) (by kernel_rfl) (by kernel_rfl) (by intro c a a' w e h; exact ⟨e.symm.trans h.1, h.2⟩) (SO.out _ _ s7 (by simp)) ?_
        intro hne
        simp only [Mix.pickOps, List.filterMap_cons, List.filterMap_nil, List.getElem?_toArray, List.getElem?_cons_zero, List.getElem?_cons_succ]
        repeat (refine Mix.cons_form ?_; go_big_quiet_step (fail))
        refine wpQuiet_nil ?_
        clear hne
        have HC2 := Lib.hid n9
        refine Mix.fork (i := 2) (j := 10) (by kernel_rfl) rfl rfl rfl rfl ?_ ?_
        · go_simp
          refine (LT.out _ (HU.out _ _ s7)).mono ?_
          rintro e w8 ⟨rfl, hb8⟩
          have s8 := s7.call hb8
          refine And.intro (SO.out _ _ s8 (by simp)) ?_
          refine Mix.take [3, 4] 5 (by kernel_rfl) (by kernel_rfl) (by kernel_rfl) (by intro c a a' w e h; exact ⟨e.symm.trans h.1, h.2⟩) (SO.out _ _ s8 (by simp)) ?_
          intro hne
          simp only [Mix.pickOps, List.filterMap_cons, List.filterMap_nil, List.getElem?_toArray, List.getElem?_cons_zero, List.getElem?_cons_succ]
          repeat (refine Mix.cons_form ?_; go_big_quiet_step (fail))
          refine wpQuiet_nil ?_
          clear hne
          have ob := one_byte (w8.alloc (.cells #[.int .u8 (48 + (tus.length : Int))] 5)) w8.heap.size 1 (48 + (tus.length : Int)) c (by rw [show (48 + (tus.length : Int)).toNat = 48 + tus.length by omega]; exact HC.out) (by omega) (by omega) (alloc_cell _ _ _)
          have s9 := s8.alloc (.cells #[.int .u8 (48 + (tus.length : Int))] 5)
          refine Mix.step (i := 10) (by kernel_rfl) rfl rfl ?_
          go_simp
          refine And.intro (SO.out _ _ s9 (by simp)) ?_
          refine Mix.step (i := 11) (by kernel_rfl) rfl rfl ?_
          go_simp
          refine And.intro (SO.out _ _ s9 (by simp)) ?_
          refine Mix.step (i := 12) (by kernel_rfl) rfl rfl ?_
          go_simp
          refine And.intro (SO.out _ _ s9 (by simp)) ?_
          refine Mix.step (i := 13) (by kernel_rfl) rfl rfl ?_
          go_simp
          refine And.intro (SO.out _ _ s9 (by simp)) ?_
          refine Mix.step (i := 14) (by kernel_rfl) rfl rfl ?_
          go_simp
          refine And.intro (SO.out _ _ s9 (by simp)) ?_
          have F := Lib.hid (GO.out _ _ s9)
          clear ob
          refine Mix.done (by kernel_rfl) ?_
          have hgt := HGT.out
          have hex := HEX.out
          have hll2 := HLL.out
          go_wp2_with fail
          go_ret
          exact ⟨by first | rfl | simp, F.out⟩
        · have ob := one_byte (w7.alloc (.cells #[.int .u8 (48 + (tus.length : Int))] 5)) w7.heap.size 1 (48 + (tus.length : Int)) c (by rw [show (48 + (tus.length : Int)).toNat = 48 + tus.length by omega]; exact HC.out) (by omega) (by omega) (alloc_cell _ _ _)
          have s8 := s7.alloc (.cells #[.int .u8 (48 + (tus.length : Int))] 5)
          have hc8 := Lib.hid (alloc_cell w7 (.int .u8 (48 + (tus.length : Int))) 5)
          go_simp
          refine And.intro (SO.out _ _ s8 (by simp)) ?_
          refine Mix.fork (i := 2) (j := 11) (by kernel_rfl) rfl rfl rfl rfl ?_ ?_
          · go_simp
            refine (LT.out _ (HU.out _ _ s8)).mono ?_
            rintro e w9 ⟨rfl, hb9⟩
            have s9 := s8.call hb9
            refine And.intro (SO.out _ _ s9 (by simp)) ?_
            clear ob
            have ob := one_byte w9 w7.heap.size 1 (48 + (tus.length : Int)) c (by rw [show (48 + (tus.length : Int)).toNat = 48 + tus.length by omega]; exact HC.out) (by omega) (by omega) ((hb9.cell (p := ⟨w7.heap.size, 0, none⟩) (by simp)).trans hc8.out)
            refine Mix.take [3, 4] 4 (by kernel_rfl) (by kernel_rfl) (by kernel_rfl) (by intro c a a' w e h; exact ⟨e.symm.trans h.1, h.2⟩) (SO.out _ _ s9 (by simp)) ?_
            intro hne
            simp only [Mix.pickOps, List.filterMap_cons, List.filterMap_nil, List.getElem?_toArray, List.getElem?_cons_zero, List.getElem?_cons_succ]
            repeat (refine Mix.cons_form ?_; go_big_quiet_step (fail))
            refine wpQuiet_nil ?_
            clear hne
            refine Mix.step (i := 11) (by kernel_rfl) rfl rfl ?_
            go_simp
            refine And.intro (SO.out _ _ s9 (by simp)) ?_
            refine Mix.step (i := 12) (by kernel_rfl) rfl rfl ?_
            go_simp
            refine And.intro (SO.out _ _ s9 (by simp)) ?_
            refine Mix.step (i := 13) (by kernel_rfl) rfl rfl ?_
            go_simp
            refine And.intro (SO.out _ _ s9 (by simp)) ?_
            refine Mix.step (i := 14) (by kernel_rfl) rfl rfl ?_
            go_simp
            refine And.intro (SO.out _ _ s9 (by simp)) ?_
            have F := Lib.hid (GO.out _ _ s9)
            clear ob
            refine Mix.done (by kernel_rfl) ?_
            have hgt := HGT.out
            have hex := HEX.out
            have hll2 := HLL.out
            go_wp2_with fail
            go_ret
            exact ⟨by first | rfl | simp, F.out⟩
          · go_simp
            refine And.intro (SO.out _ _ s8 (by simp)) ?_
            refine Mix.step (i := 2) (by kernel_rfl) rfl rfl ?_
            go_simp
            refine (LT.out _ (HU.out _ _ s8)).mono ?_
            rintro e w9 ⟨rfl, hb9⟩
            have s9 := s8.call hb9
            refine And.intro (SO.out _ _ s9 (by simp)) ?_
            refine Mix.step (i := 3) (by kernel_rfl) rfl rfl ?_
            go_simp
            refine And.intro (SO.out _ _ s9 (by simp)) ?_
            refine Mix.step (i := 4) (by kernel_rfl) rfl rfl ?_
            go_simp
            refine And.intro (SO.out _ _ s9 (by simp)) ?_
            refine Mix.step (i := 12) (by kernel_rfl) rfl rfl ?_
            go_simp
            refine And.intro (SO.out _ _ s9 (by simp)) ?_
            refine Mix.step (i := 13) (by kernel_rfl) rfl rfl ?_
            go_simp
            refine And.intro (SO.out _ _ s9 (by simp)) ?_
            refine Mix.step (i := 14) (by kernel_rfl) rfl rfl ?_
            go_simp
            refine And.intro (SO.out _ _ s9 (by simp)) ?_
            have F := Lib.hid (GO.out _ _ s9)
            clear ob
            refine Mix.done (by kernel_rfl) ?_
            have hgt := HGT.out
            have hex := HEX.out
            have hll2 := HLL.out
            go_wp2_with fail
            go_ret
            exact ⟨by first | rfl | simp, F.out⟩
      · have g9 : decide ((9 : Int) < (tus.length : Int)) = true := by simp; omega
        clear PL h9
        go_wp2_with fail
        go_ret
        exact ⟨rfl, HB.out _ _ s4⟩
  · go_enter Tryd.func7, Tryd.ntmps7
    go_wp2_with fail
    go_ret
    exact ⟨rfl, Below.refl _ _⟩
end Go.Proofs.YtebklbncfcdkmaaDoor.fnChainTextNode
