/-
  The walk of FnBaseAll.
-/
import Derived.Test.YtgdbphgcpcihcaaD8
import Derived.Test.YtgdbphgcpcihcaaB8
import Derived.Test.YtgdbphgcpcihcaaB5
import Derived.Test.YtgdbphgcpcihcaaP7
import Derived.Test.YtgdbphgcpcihcaaSb
import Derived.Deep.RegionHeld3
namespace Go.Proofs.Ytgdbphgcpcihcaa.fnBaseAll
open Go.RowKit Go.Proofs.Ytgdbphgcpcihcaa

theorem run_all {nid : Int} {us : List Upd} {done : Int} (h : nodeOk nid us done = true) : runOk (baseMany nid us done) (baseState nid us done) (pendingOf nid us done) = true ∧ runMany (baseMany nid us done) (baseState nid us done) (pendingOf nid us done) = us.length ∧
    runState (baseMany nid us done) (baseState nid us done) (pendingOf nid us done) = stateAt us us.length := by
  obtain ⟨_, hl, h0, h1⟩ := nodeOk_parts h
  obtain ⟨k, rfl⟩ := Int.eq_ofNat_of_zero_le h0
  have hk : k ≤ us.length := by omega
  have e1 : baseMany nid us k = k := by rw [baseMany, h]; rfl
  have e2 : baseState nid us k = runTo empty5 us k := by rw [baseState, h]; exact stateAt_yes hl hk
  have e3 : pendingOf nid us k = us.drop k := by rw [pendingOf, h]; rfl
  have e4 : (k : Int) + ((us.drop k).length : Int) = us.length := by rw [List.length_drop]; omega
  have ok : runOk (k : Int) (runTo empty5 us k) (us.drop k) = true := run_good (baseOk_at hl k hk) (logOk_drop hl k) (by rw [e4, run_app]; exact baseOk_at hl us.length (Nat.le_refl _))
  rw [e1, e2, e3]
  refine ⟨ok, ?_, ?_⟩
  · rw [runMany, if_pos ok, e4]
  · rw [runState, if_pos ok, run_app]; exact (stateAt_yes hl (Nat.le_refl _)).symm

set_option maxHeartbeats 4000000 in
theorem walk (a0 : Option Addr) (len0 cap0 : Nat) (z0 : List Int) (w : World) (w0 : IsRow .u8 w a0 len0 cap0 z0) :
    Calls Try.prog 8 #[.slice a0 len0 cap0] w fun e w' => e = .returned (.bool true) ∧ Below w.heap.size w w' := by
  have hle := w0.le
  have hby := w0.bytes
  clear w0
  by_cases hbig : len0 ≤ 1048576
  · go_enter Try.func8, Try.ntmps8
    go_wp2_with fail
    refine (drawBaseOf_calls _ _ _ _ hle.1 hle.2 hby).mono ?_
    rintro e w1 ⟨nid, a, cap, us, done, rfl, hul, hcap, _, hd0, hd1, hn0, hn1, hu, hb1⟩
    have hm : us.length ≤ 1099511627776 := by omega
    have HB := Lib.hid (fun W R (k : St w1 W R) => hb1.trans (k.below.mono hb1.size))
    have s1 := (St.start w1).alloc (.cells #[.int .i64 nid, .slice a us.length cap, .int .i64 done] 25)
    have hsl : (baseState nid us done).length ≤ 5 := by
      unfold baseState stateAt
      split
      · split
        · rw [runTo_len]; exact Nat.le_refl 5
        · simp
      · simp
    have hpl : (pendingOf nid us done).length ≤ us.length := by
      unfold pendingOf
      split
      · simp
      · simp
    have OLD := Lib.hid (@run_all nid us done)
    have SO := Lib.hid (fun W (h : UpdsAt W a us) => stateOf_calls a cap us W hm hcap h)
    have hzl : (stateAt us us.length).length ≤ 5 := by
      unfold stateAt
      split
      · rw [runTo_len]; exact Nat.le_refl 5
      · simp
    have IM := Lib.hid (fun W (h : UpdsAt W a us) => baseOf_calls a cap nid done us W hm hcap h)
    have SP := Lib.hid (fun W (h : UpdsAt W a us) => specBaseOf_calls a cap nid done us W hm hcap h)
    unfold GaveBase at IM SP
    clear hby hb1 hd0 hd1 hn0 hn1
    generalize baseMany nid us done = bm at *
    generalize baseState nid us done = st at *
    generalize pendingOf nid us done = pd at *
    generalize stateAt us us.length = zs at *
    have z2 : zs.length ≤ 1099511627776 := by omega
    unfold MadeInts at SO
    have p2 : pd.length ≤ 1099511627776 := by omega
    have t2 : st.length ≤ 1099511627776 := by omega
    go_wp2_with fail
    refine (IM.out _ (hu.below s1.below)).mono ?_
    rintro e w2 ⟨a3, cap3, b3, capb3, rfl, ss⟩
    have s2 := s1.join ss
    simp only [List.cons_append, List.nil_append] at s2
    have s3 := s2.alloc (.cells #[.int .i64 bm, .slice a3 st.length cap3] 29)
    obtain ⟨c2, _⟩ := s2.drop.drop.cells
    have l2 := s2.drop.drop.lt.2
    clear s1 ss
    go_wp2_with fail
    refine (SP.out _ (hu.below s3.below)).mono ?_
    rintro e w4 ⟨a5, cap5, b5, capb5, rfl, ss⟩
    have s4 := s3.join ss
    simp only [List.cons_append, List.nil_append] at s4
    have s5 := s4.alloc (.cells #[.int .i64 bm, .slice a5 st.length cap5] 29)
    clear s2 s3 ss c2 l2
    obtain ⟨c4, _⟩ := s4.drop.drop.cells
    obtain ⟨e4, _⟩ := s4.drop.drop.drop.drop.drop.cells
    have l4 := s4.drop.drop.lt.2
    have l5 := s4.drop.drop.drop.drop.drop.lt.2
    cases hv : nodeOk nid us done with
    | false =>
      clear hv
      go_wp2_with fail
      refine (sameLog_eq _ _ _ _ _ _ p2 (own_cellsR s5.drop.drop.drop.drop.own) (own_cellsR s5.drop.own)).mono ?_
      rintro e w6 ⟨rfl, hb6⟩
      have s6 := s5.call hb6
      obtain ⟨c6, _⟩ := s6.cells
      obtain ⟨d6, _⟩ := s6.drop.drop.drop.cells
      clear s4 s5 c4 e4 l4 l5 hb6
      go_wp2_with fail
      refine (sameBase_eq _ _ _ _ _ _ _ t2 (own_intsR s6.drop.drop.drop.drop.drop.own) (own_intsR s6.drop.drop.own)).mono ?_
      rintro e w7 ⟨rfl, hb7⟩
      have s7 := s6.call hb7
      obtain ⟨c7, _⟩ := s7.cells
      obtain ⟨d7, _⟩ := s7.drop.drop.drop.cells
      clear s6 hb7 c6 d6
      go_wp2_with fail
      refine (sameLog_eq _ _ _ _ _ _ p2 (own_cellsR s7.drop.drop.drop.drop.own) (own_cellsR s7.drop.own)).mono ?_
      rintro e w8 ⟨rfl, hb8⟩
      have s8 := s7.call hb8
      obtain ⟨c8, _⟩ := s8.cells
      obtain ⟨d8, _⟩ := s8.drop.drop.drop.cells
      clear s7 hb8 c7 d7
      go_wp2_with fail
      refine (sameBase_eq _ _ _ _ _ _ _ t2 (own_intsR s8.drop.drop.drop.drop.drop.own) (own_intsR s8.drop.drop.own)).mono ?_
      rintro e w9 ⟨rfl, hb9⟩
      have s9 := s8.call hb9
      go_wp2_with fail
      go_ret
      exact ⟨rfl, HB.out _ _ s9⟩
    | true =>
      have OL := Lib.hid (OLD.out hv)
      clear hv
      go_wp2_with fail
      refine (sameLog_eq _ _ _ _ _ _ p2 (own_cellsR s5.drop.drop.drop.drop.own) (own_cellsR s5.drop.own)).mono ?_
      rintro e w6 ⟨rfl, hb6⟩
      have s6 := s5.call hb6
      obtain ⟨c6, _⟩ := s6.cells
      obtain ⟨d6, _⟩ := s6.drop.drop.drop.cells
      clear s4 s5 c4 e4 l4 l5 hb6
      go_wp2_with fail
      refine (sameBase_eq _ _ _ _ _ _ _ t2 (own_intsR s6.drop.drop.drop.drop.drop.own) (own_intsR s6.drop.drop.own)).mono ?_
      rintro e w7 ⟨rfl, hb7⟩
      have s7 := s6.call hb7
      obtain ⟨d7, _⟩ := s7.drop.drop.drop.cells
      obtain ⟨e7, _⟩ := s7.drop.drop.drop.drop.drop.drop.cells
      clear s6 hb7 c6 d6
      go_wp2_with fail
      have BR := Lib.hid (baseRun_calls a3 b3 cap3 capb3 bm st pd w7 t2 p2 (own_intsR s7.drop.drop.drop.drop.drop.own) (own_cellsR s7.drop.drop.drop.drop.own))
      obtain ⟨x1, x2, x3⟩ := OL.out
      unfold RanBase at BR
      rw [x1, x2, x3] at BR
      clear x1 x2 x3
      refine BR.out.mono ?_
      rintro e w8 ⟨a8, cap8, rfl, ho8, hb8⟩
      have s8 := s7.fresh hb8 ho8 (Nat.le_refl _)
      have s9 := s8.alloc (.cells #[.int .i64 (us.length : Int), .slice a8 zs.length cap8] 29)
      clear s7 d7 e7 ho8 hb8 BR OL
      go_wp2_with fail
      generalize w8.alloc (.cells #[.int .i64 (us.length : Int), .slice a8 zs.length cap8] 29) = w9 at *
      generalize w8.heap.size = X at *
      have k0 := s9.cells.1 0
      have k1 := s9.cells.1 1
      have k2 := s9.drop.drop.drop.drop.drop.drop.drop.drop.cells.1 1
      simp at k0 k1 k2
      have hu9 := hu.below s9.below
      clear s8
      go_region_held3 (fun w' => w'.cell? ⟨X, 0, none⟩ = some (.int .i64 us.length) ∧ w'.cell? ⟨X, 1, none⟩ = some (.slice a8 zs.length cap8) ∧ w'.cell? ⟨w1.heap.size, 1, none⟩ = some (.slice a us.length cap))
        (first | go_keep | assumption | (go_split_ands; exact ⟨e0, e1, e2⟩) | (go_split_ands; exact ⟨f0, f1, f2⟩))
        ((first | (go_at_call 24; refine (SO.out _ (by exact hu9)).mono ?_; rintro e w10 ⟨a10, cap10, rfl, ho10, hb10⟩; have s10 := s9.drew.fresh hb10 ho10 (Nat.le_refl _); have e0 := s10.drop.cells.1 0; have e1 := s10.drop.cells.1 1; have e2 := s10.drop.drop.drop.drop.drop.drop.drop.drop.drop.cells.1 1; simp at e0 e1 e2) | (go_at_call 31; refine (sameInts_calls _ _ _ _ _ _ _ z2 z2 (by exact own_intsR s10.drop.drop.own) (by exact own_intsR s10.own)).mono ?_; rw [decide_eq_true rfl]; rintro e w11 ⟨rfl, hb11⟩; have s11 := s10.call hb11; have f0 := s11.drop.cells.1 0; have f1 := s11.drop.cells.1 1; have f2 := s11.drop.drop.drop.drop.drop.drop.drop.drop.drop.cells.1 1; simp at f0 f1 f2)))
      go_wp2_with fail
      go_ret
      exact ⟨rfl, HB.out _ _ s11⟩
  · go_enter Try.func8, Try.ntmps8
    go_wp2_with fail
    go_ret
    exact ⟨rfl, Below.refl _ _⟩

end Go.Proofs.Ytgdbphgcpcihcaa.fnBaseAll
