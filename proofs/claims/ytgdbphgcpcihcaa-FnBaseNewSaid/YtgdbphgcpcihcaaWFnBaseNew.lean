/-
  The walk of FnBaseNew.
-/
import Derived.Test.YtgdbphgcpcihcaaD8
import Derived.Test.YtgdbphgcpcihcaaB8
import Derived.Test.YtgdbphgcpcihcaaB4
import Derived.Test.YtgdbphgcpcihcaaP7
import Derived.Test.YtgdbphgcpcihcaaSb
namespace Go.Proofs.Ytgdbphgcpcihcaa.fnBaseNew
open Go.RowKit Go.Proofs.Ytgdbphgcpcihcaa

theorem old_new {nid : Int} {us : List Upd} {done : Int} (h : nodeOk nid us done = true) : oldOf (baseMany nid us done) (baseState nid us done) us = false := by
  obtain ⟨_, hl, h0, h1⟩ := nodeOk_parts h
  obtain ⟨k, rfl⟩ := Int.eq_ofNat_of_zero_le h0
  have hk : k ≤ us.length := by omega
  have e1 : baseMany nid us k = k := by rw [baseMany, h]; rfl
  have e2 : baseState nid us k = stateAt us k := by rw [baseState, h]; rfl
  rw [e1, e2, oldOf, hl, stateAt_yes hl hk, baseOk_at hl k hk, decide_eq_false (by omega)]
  simp

set_option maxHeartbeats 4000000 in
theorem walk (a0 : Option Addr) (len0 cap0 : Nat) (z0 : List Int) (w : World) (w0 : IsRow .u8 w a0 len0 cap0 z0) :
    Calls Try.prog 3 #[.slice a0 len0 cap0] w fun e w' => e = .returned (.bool true) ∧ Below w.heap.size w w' := by
  have hle := w0.le
  have hby := w0.bytes
  clear w0
  by_cases hbig : len0 ≤ 1048576
  · go_enter Try.func3, Try.ntmps3
    go_wp2_with fail
    refine (drawBaseOf_calls _ _ _ _ hle.1 hle.2 hby).mono ?_
    rintro e w1 ⟨nid, a, cap, us, done, rfl, hul, hcap, _, hd0, hd1, hn0, hn1, hu, hb1⟩
    have hm : us.length ≤ 1099511627776 := by omega
    have HB := Lib.hid (fun W R (k : St w1 W R) => hb1.trans (k.below.mono hb1.size))
    have s1 := (St.start w1).alloc (.cells #[.int .i64 nid, .slice a us.length cap, .int .i64 done] 25)
    have hsl : (baseState nid us done).length ≤ 5 := by
      unfold baseState stateAt
      split
      · split
        · rw [runTo_len]; exact Nat.le_refl 5
        · simp
      · simp
    have hpl : (pendingOf nid us done).length ≤ us.length := by
      unfold pendingOf
      split
      · simp
      · simp
    have OLD := Lib.hid (@old_new nid us done)
    have IM := Lib.hid (fun W (h : UpdsAt W a us) => baseOf_calls a cap nid done us W hm hcap h)
    have SP := Lib.hid (fun W (h : UpdsAt W a us) => specBaseOf_calls a cap nid done us W hm hcap h)
    unfold GaveBase at IM SP
    clear hby hb1 hd0 hd1 hn0 hn1
    generalize baseMany nid us done = bm at *
    generalize baseState nid us done = st at *
    generalize pendingOf nid us done = pd at *
    have p2 : pd.length ≤ 1099511627776 := by omega
    have t2 : st.length ≤ 1099511627776 := by omega
    go_wp2_with fail
    refine (IM.out _ (hu.below s1.below)).mono ?_
    rintro e w2 ⟨a3, cap3, b3, capb3, rfl, ss⟩
    have s2 := s1.join ss
    simp only [List.cons_append, List.nil_append] at s2
    have s3 := s2.alloc (.cells #[.int .i64 bm, .slice a3 st.length cap3] 29)
    obtain ⟨c2, _⟩ := s2.drop.drop.cells
    have l2 := s2.drop.drop.lt.2
    clear s1 ss
    go_wp2_with fail
    refine (SP.out _ (hu.below s3.below)).mono ?_
    rintro e w4 ⟨a5, cap5, b5, capb5, rfl, ss⟩
    have s4 := s3.join ss
    simp only [List.cons_append, List.nil_append] at s4
    have s5 := s4.alloc (.cells #[.int .i64 bm, .slice a5 st.length cap5] 29)
    clear s2 s3 ss c2 l2
    obtain ⟨c4, _⟩ := s4.drop.drop.cells
    obtain ⟨e4, _⟩ := s4.drop.drop.drop.drop.drop.cells
    have l4 := s4.drop.drop.lt.2
    have l5 := s4.drop.drop.drop.drop.drop.lt.2
    cases hv : nodeOk nid us done with
    | false =>
      clear hv
      go_wp2_with fail
      refine (sameLog_eq _ _ _ _ _ _ p2 (own_cellsR s5.drop.drop.drop.drop.own) (own_cellsR s5.drop.own)).mono ?_
      rintro e w6 ⟨rfl, hb6⟩
      have s6 := s5.call hb6
      obtain ⟨c6, _⟩ := s6.cells
      obtain ⟨d6, _⟩ := s6.drop.drop.drop.cells
      clear s4 s5 c4 e4 l4 l5 hb6
      go_wp2_with fail
      refine (sameBase_eq _ _ _ _ _ _ _ t2 (own_intsR s6.drop.drop.drop.drop.drop.own) (own_intsR s6.drop.drop.own)).mono ?_
      rintro e w7 ⟨rfl, hb7⟩
      have s7 := s6.call hb7
      obtain ⟨c7, _⟩ := s7.cells
      obtain ⟨d7, _⟩ := s7.drop.drop.drop.cells
      clear s6 hb7 c6 d6
      go_wp2_with fail
      refine (sameLog_eq _ _ _ _ _ _ p2 (own_cellsR s7.drop.drop.drop.drop.own) (own_cellsR s7.drop.own)).mono ?_
      rintro e w8 ⟨rfl, hb8⟩
      have s8 := s7.call hb8
      obtain ⟨c8, _⟩ := s8.cells
      obtain ⟨d8, _⟩ := s8.drop.drop.drop.cells
      clear s7 hb8 c7 d7
      go_wp2_with fail
      refine (sameBase_eq _ _ _ _ _ _ _ t2 (own_intsR s8.drop.drop.drop.drop.drop.own) (own_intsR s8.drop.drop.own)).mono ?_
      rintro e w9 ⟨rfl, hb9⟩
      have s9 := s8.call hb9
      go_wp2_with fail
      go_ret
      exact ⟨rfl, HB.out _ _ s9⟩
    | true =>
      have OL := Lib.hid (OLD.out hv)
      clear hv
      go_wp2_with fail
      refine (sameLog_eq _ _ _ _ _ _ p2 (own_cellsR s5.drop.drop.drop.drop.own) (own_cellsR s5.drop.own)).mono ?_
      rintro e w6 ⟨rfl, hb6⟩
      have s6 := s5.call hb6
      obtain ⟨c6, _⟩ := s6.cells
      obtain ⟨d6, _⟩ := s6.drop.drop.drop.cells
      clear s4 s5 c4 e4 l4 l5 hb6
      go_wp2_with fail
      refine (sameBase_eq _ _ _ _ _ _ _ t2 (own_intsR s6.drop.drop.drop.drop.drop.own) (own_intsR s6.drop.drop.own)).mono ?_
      rintro e w7 ⟨rfl, hb7⟩
      have s7 := s6.call hb7
      obtain ⟨d7, _⟩ := s7.drop.drop.drop.cells
      obtain ⟨e7, _⟩ := s7.drop.drop.drop.drop.drop.drop.cells
      clear s6 hb7 c6 d6
      go_wp2_with fail
      refine (baseOld_calls _ _ _ _ _ _ us _ t2 hm hcap (own_intsR s7.drop.drop.drop.drop.drop.own) (hu.below s7.below)).mono ?_
      rw [OL.out]
      rintro e w8 ⟨rfl, hb8⟩
      have s8 := s7.call hb8
      go_wp2_with fail
      go_ret
      exact ⟨rfl, HB.out _ _ s8⟩
  · go_enter Try.func3, Try.ntmps3
    go_wp2_with fail
    go_ret
    exact ⟨rfl, Below.refl _ _⟩

end Go.Proofs.Ytgdbphgcpcihcaa.fnBaseNew
