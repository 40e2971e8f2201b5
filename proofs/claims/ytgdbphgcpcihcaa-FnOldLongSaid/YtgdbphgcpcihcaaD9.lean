/-
  The walk of DrawBaseOld. No statement is proved here.
-/
import Derived.Test.YtgdbphgcpcihcaaD7
namespace Go.Proofs.Ytgdbphgcpcihcaa
open Go.RowKit

theorem ucells_set2 (us : List Upd) (q : Nat) (v : Int) (hq : q < us.length) : (ucells us).set (q * 2 + 1) (.int .i64 v) = ucells (us.set q (us[q].1, v)) := by
  induction us generalizing q with
  | nil => simp at hq
  | cons u r ih =>
    cases q with
    | zero => simp [ucells]
    | succ q =>
      have := ih q (by simpa using hq)
      rw [show (q + 1) * 2 + 1 = q * 2 + 1 + 1 + 1 by omega]
      simpa [ucells] using this

set_option maxHeartbeats 4000000 in
theorem drawBaseOld_calls (a : Option Addr) (n cap : Nat) (w : World) (hc : n ≤ cap) (hm : cap ≤ maxLen) (hb : BytesAt w a n) :
    Calls Try.prog 17 #[.slice a n cap] w (DrawnBase w) := by
  have s0 := (St.start w).alloc (.cells #[.int .i64 0, .slice none 0 0] 29)
  go_enter Try.func17, Try.ntmps17
  go_wp2_with fail
  refine (l6Open_st a n cap s0 hc hm hb).mono ?_
  rintro e w1 ⟨b, rfl, s1⟩
  go_wp2_with fail
  refine (l91Log_st b 0 s1 (by omega)).mono ?_
  rintro e w2 ⟨v, us, rfl, hl, _, s2⟩
  obtain ⟨a2, cap2, rfl, _⟩ := own_cells s2.own
  have hul : us.length ≤ 1099511627776 := by omega
  clear s0 s1 hb
  go_wp2_with fail
  refine (specLogValid_calls _ _ _ _ hul (own_cellsR s2.own)).mono ?_
  rintro e w3 ⟨rfl, hb3⟩
  have s3 := s2.call hb3
  clear s2 hb3
  have REST := Lib.hid (fun W (s : St w W (rd w b 101 :: row (.slice a2 us.length cap2) 67 2 us.length (ucells us) :: boxo w.heap.size (.cells #[.int .i64 0, .slice none 0 0] 29 (0, 0)) :: [])) => l92Base_st b 101 s (by omega))
  cases hv : logOk us with
  | false =>
    clear hv
    go_wp2_with fail
    refine (REST.out _ (s3.at1.rdMono (by omega))).mono ?_
    rintro e w4 ⟨many, a4, cap4, st, rfl, m0, m1, l5, s4⟩
    obtain ⟨c4, f4⟩ := s4.at3.cells
    have s5 := ((s4.at3.set 0 (.int .i64 many)).set 1 (.slice a4 st.length cap4))
    have q5 := s5.cells.1
    have FIN := Lib.hid s5
    clear s3 s4 s5 m0 m1 REST
    go_wp2_with fail
    exact bodyPost_ret (v := .tuple #[.agg #[.int .i64 many, .slice a4 st.length cap4], .slice a2 us.length cap2]) (by simp [results, Try.results17, go_sem, q5]) rfl ⟨many, a4, cap4, st, a2, cap2, us, rfl, l5, hl, own_cap FIN.out.drop.drop.drop.own, own_intsR FIN.out.drop.own, own_cellsR FIN.out.drop.drop.drop.own, FIN.out.below⟩
  | true =>
    have L2 := Lib.hid (fun W k (h : UpdsAt W a2 us) hk => l2At_calls a2 cap2 us k W hul h hv hk)
    have RL := Lib.hid (fun k => (runTo_len empty5 us k))
    clear hv
    go_wp2_with fail
    refine (pick_st b 100 3 s3.at1 (by omega) (by omega)).mono ?_
    rintro e w4 ⟨t, rfl, t0, t1, s4⟩
    clear s3 t1
    by_cases ht : 0 < t
    · go_wp2_with fail
      refine (pick_st b 101 ((us.length : Int) + 1) s4 (by omega) (by omega)).mono ?_
      rintro e w5 ⟨k, rfl, k0, k1, s5⟩
      have k2 := k1 (by omega)
      obtain ⟨k, rfl⟩ := Int.eq_ofNat_of_zero_le k0
      have hk : k ≤ us.length := by omega
      clear s4 k1
      go_wp2_with fail
      refine (L2.out _ k (own_cellsR s5.at1.own) hk).mono ?_
      unfold MadeInts
      rintro e w6 ⟨a6, cap6, rfl, ho6, hb6⟩
      have s6 := s5.fresh hb6 ho6 (Nat.le_refl _)
      have l5 : (runTo empty5 us k).length ≤ 5 := by rw [RL.out]; exact Nat.le_refl 5
      generalize runTo empty5 us k = st at *
      have s7 := s6.alloc (.cells #[.int .i64 k, .slice a6 st.length cap6] 29)
      clear s5 ho6 hb6 L2 RL
      by_cases hk0 : 0 < k
      · go_wp2_with fail
        generalize w6.alloc (.cells #[.int .i64 k, .slice a6 st.length cap6] 29) = w7 at *
        generalize w6.heap.size = V at *
        clear s6
        refine (pick_st b 102 3 s7.at2 (by omega) (by omega)).mono ?_
        rintro e w8 ⟨r, rfl, r0, r1, s8⟩
        have s8 := (s8.to2).at4
        clear s7 r1
        by_cases hr : r = 0
        · subst hr
          go_wp2_with fail
          refine (pick_st b 103 k s8.at3 (by omega) (by omega)).mono ?_
          rintro e w9 ⟨q, rfl, q0, q1, s9⟩
          have q2 := q1 (by omega)
          obtain ⟨q, rfl⟩ := Int.eq_ofNat_of_zero_le q0
          have hqu : q < us.length := by omega
          clear s8 q1
          go_wp2_with fail
          refine (pick_st b 104 100 s9 (by omega) (by omega)).mono ?_
          rintro e w10 ⟨x, rfl, x0, x1, s10⟩
          have s11 := s10.to3
          obtain ⟨g, c', e1, _⟩ := (s11.at4).own.form (by omega)
          cases e1
          have cq := (s11.at4).own.cellAt (q * 2 + 1) (by omega)
          have fq := (s11.at4).own.frozenAt (q * 2 + 1)
          rw [(ucells_at us q hqu).2] at cq
          have s12 := ((s11.at4).rowSet (q * 2 + 1) (.int .i64 x)).at1
          rw [ucells_set2 us q x hqu] at s12
          have i1 : (0 : Int) ≤ (q : Int) := by omega
          have i2 : (q : Int) < (us.length : Int) := by omega
          obtain ⟨d12, f12⟩ := s12.cells
          obtain ⟨c12, g12⟩ := s12.at2.cells
          have s13 := (s12.set 0 (.int .i64 k)).set 1 (.slice a6 st.length cap6)
          have q13 := s13.cells.1
          have FIN := Lib.hid s13
          clear s13 s9 s10 s12 x1
          go_wp2_with fail
          exact bodyPost_ret (v := .tuple #[.agg #[.int .i64 k, .slice a6 st.length cap6], .slice (some ⟨g, 0, none⟩) us.length cap2]) (by simp [results, Try.results17, go_sem, q13]) rfl ⟨k, a6, cap6, st, some ⟨g, 0, none⟩, cap2, us.set q (us[q].1, x), by simp, l5, by simpa using hl, by simpa using own_cap FIN.out.drop.own, own_intsR FIN.out.drop.drop.drop.own, own_cellsR FIN.out.drop.own, FIN.out.below⟩
        · have hr' : (r == 0) = false := by simpa using hr
          obtain ⟨d9, f9⟩ := s8.cells
          obtain ⟨c9, g9⟩ := s8.at1.cells
          have s10 := (s8.set 0 (.int .i64 k)).set 1 (.slice a6 st.length cap6)
          have q10 := s10.cells.1
          have FIN := Lib.hid s10
          clear s10 s8 hr
          go_wp2_with fail
          exact bodyPost_ret (v := .tuple #[.agg #[.int .i64 k, .slice a6 st.length cap6], .slice a2 us.length cap2]) (by simp [results, Try.results17, go_sem, q10]) rfl ⟨k, a6, cap6, st, a2, cap2, us, rfl, l5, hl, own_cap FIN.out.drop.drop.drop.drop.own, own_intsR FIN.out.drop.drop.own, own_cellsR FIN.out.drop.drop.drop.drop.own, FIN.out.below⟩
      · obtain rfl : k = 0 := by omega
        have lr := s6.at3.lt.2
        obtain ⟨d6, f6⟩ := s6.at3.cells
        have s8 := (((s6.at3.set 0 (.int .i64 0)).set 1 (.slice a6 st.length cap6)).alloc (.cells #[.int .i64 0, .slice a6 st.length cap6] 29))
        have q8 := s8.drop.cells.1
        have FIN := Lib.hid s8
        clear s6 s7 s8
        go_wp2_with fail
        exact bodyPost_ret (v := .tuple #[.agg #[.int .i64 0, .slice a6 st.length cap6], .slice a2 us.length cap2]) (by simp [results, Try.results17, go_sem, q8]) rfl ⟨0, a6, cap6, st, a2, cap2, us, rfl, l5, hl, own_cap FIN.out.drop.drop.drop.drop.own, own_intsR FIN.out.drop.drop.own, own_cellsR FIN.out.drop.drop.drop.drop.own, FIN.out.below⟩
    · obtain rfl : t = 0 := by omega
      go_wp2_with fail
      refine (REST.out _ s4).mono ?_
      rintro e w5 ⟨many, a4, cap4, st, rfl, m0, m1, l5, s5⟩
      obtain ⟨c4, f4⟩ := s5.at3.cells
      have s6 := ((s5.at3.set 0 (.int .i64 many)).set 1 (.slice a4 st.length cap4))
      have q5 := s6.cells.1
      have FIN := Lib.hid s6
      clear s4 s5 s6 m0 m1 REST
      go_wp2_with fail
      exact bodyPost_ret (v := .tuple #[.agg #[.int .i64 many, .slice a4 st.length cap4], .slice a2 us.length cap2]) (by simp [results, Try.results17, go_sem, q5]) rfl ⟨many, a4, cap4, st, a2, cap2, us, rfl, l5, hl, own_cap FIN.out.drop.drop.drop.own, own_intsR FIN.out.drop.own, own_cellsR FIN.out.drop.drop.drop.own, FIN.out.below⟩

end Go.Proofs.Ytgdbphgcpcihcaa
