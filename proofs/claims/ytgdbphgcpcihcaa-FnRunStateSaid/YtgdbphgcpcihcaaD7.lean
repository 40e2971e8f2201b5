/-
  The walks of l92Base and DrawBaseRun. No statement is proved here.
-/
import Derived.Test.YtgdbphgcpcihcaaD6
import Derived.Test.YtgdbphgcpcihcaaOc
namespace Go.Proofs.Ytgdbphgcpcihcaa
open Go.RowKit

theorem someOf_le (s : List Int) : someOf s ≤ s.length := someTo_le s _
theorem lit5n (x0 x1 x2 x3 x4 : Int) (q : Int) (h0 : 0 ≤ q) (h1 : q < 5) : ∃ (k : Nat) (z : Int), q = (k : Int) ∧ k < 5 ∧ (z = x0 ∨ z = x1 ∨ z = x2 ∨ z = x3 ∨ z = x4) ∧ (#[Value.int .i64 x0, Value.int .i64 x1, Value.int .i64 x2, Value.int .i64 x3, Value.int .i64 x4] : Array Value)[k]? = some (.int .i64 z) := by
  rcases (show q = 0 ∨ q = 1 ∨ q = 2 ∨ q = 3 ∨ q = 4 by omega) with rfl | rfl | rfl | rfl | rfl
  · exact ⟨0, x0, rfl, by omega, by simp, rfl⟩
  · exact ⟨1, x1, rfl, by omega, by simp, rfl⟩
  · exact ⟨2, x2, rfl, by omega, by simp, rfl⟩
  · exact ⟨3, x3, rfl, by omega, by simp, rfl⟩
  · exact ⟨4, x4, rfl, by omega, by simp, rfl⟩

theorem wrap64_id {x : Int} (h0 : -9223372036854775808 ≤ x) (h1 : x ≤ 9223372036854775807) : wrap64 x = x := by
  unfold wrap64
  omega

set_option maxHeartbeats 4000000 in
theorem l92Base_st {w0 w : World} {rs : List Res} (b m : Nat) (h : St w0 w (rd w0 b m :: rs)) (hm : m ≤ 700000) :
    Calls Try.prog 52 #[.pointer (some ⟨b, 0, none⟩)] w fun e w' => ∃ (many : Int) (a : Option Addr) (cap : Nat) (s : List Int), e = .returned (.agg #[.int .i64 many, .slice a s.length cap]) ∧ -1 ≤ many ∧ many ≤ 1000 ∧ s.length ≤ 5 ∧ St w0 w' (row (.slice a s.length cap) 3 1 s.length (s.map (Value.int .i64)) :: rd w0 b (m + 16) :: rs) := by
  have s0 := (h.alloc (.cells #[.int .i64 0, .slice none 0 0] 29)).at1
  go_enter Try.func52, Try.ntmps52
  go_wp2_with fail
  refine (l91State_st b m s0 (by omega)).mono ?_
  rintro e w1 ⟨g, n, cap, st, rfl, hn, n4, n5, s1⟩
  have l5 : st.length ≤ 5 := by omega
  have l6 : st.length ≤ 1099511627776 := by omega
  subst hn
  have s2 := s1.alloc (.cells #[.int .i64 0, .slice (some ⟨g, 0, none⟩) st.length cap] 29)
  obtain ⟨d1, f1⟩ := s1.at2.cells
  have lr := s1.at2.lt.2
  have SV := Lib.hid (fun W (h : IntsAt W (some ⟨g, 0, none⟩) st) => specStateValid_calls (some ⟨g, 0, none⟩) cap st W l6 h)
  have SO := Lib.hid (fun W (h : IntsAt W (some ⟨g, 0, none⟩) st) => l33Some_calls (some ⟨g, 0, none⟩) cap st W l6 h)
  have hso := someOf_le st
  generalize someOf st = so at *
  clear s0 h
  go_wp2_with fail
  generalize w1.alloc (.cells #[.int .i64 0, .slice (some ⟨g, 0, none⟩) st.length cap] 29) = w2 at *
  generalize w1.heap.size = V at *
  clear d1 f1 lr s1
  refine (SV.out _ (own_intsR s2.drop.own)).mono ?_
  rintro e w2 ⟨rfl, rfl⟩
  obtain ⟨d2, f2⟩ := s2.at3.cells
  obtain ⟨c2, g2⟩ := s2.cells
  cases hv : stateOk st with
  | false =>
    have s3 := ((s2.at3.set 0 (.int .i64 0)).set 1 (.slice (some ⟨g, 0, none⟩) st.length cap))
    have q := s3.cells.1
    have FIN := Lib.hid ((s3.drop.drop.at1.rdMono (m' := m + 16) (by omega)).at1)
    clear s3 SV SO hv
    go_wp2_with fail
    exact bodyPost_ret (v := .agg #[.int .i64 0, .slice (some ⟨g, 0, none⟩) st.length cap]) (by simp [results, Try.results52, go_sem, q]) rfl ⟨0, _, cap, st, rfl, by omega, by omega, l5, FIN.out⟩
  | true =>
    clear hv SV
    go_wp2_with fail
    refine (SO.out _ (own_intsR s2.drop.own)).mono ?_
    rintro e w2 ⟨rfl, rfl⟩
    go_wp2_with fail
    refine (pick_st b (m + 13) 3 s2.at2 (by omega) (by omega)).mono ?_
    rintro e w3 ⟨p, rfl, p0, p1, s3⟩
    have p2 := p1 (by omega)
    have s3 := s3.to2
    obtain ⟨M, hM, hM0, hM1⟩ : ∃ M : Int, (so : Int) * (1 + p) = M ∧ 0 ≤ M ∧ M ≤ 15 := by
      refine ⟨_, rfl, ?_⟩
      rcases (show p = 0 ∨ p = 1 ∨ p = 2 by omega) with rfl | rfl | rfl <;> omega
    have HM := Lib.hid hM
    obtain ⟨d3, f3⟩ := s3.at3.cells
    obtain ⟨c3, g3⟩ := s3.cells
    have iw : wrap64 ((so : Int) * (1 + p)) = M := by rw [HM.out]; exact wrap64_id (by omega) (by omega)
    have s4 := (s3.set 0 (.int .i64 M))
    clear d2 f2 c2 g2 s2 p1 hM SO
    go_wp2_with fail
    refine (pick_st b (m + 13 + 1) 20 s4.at2 (by omega) (by omega)).mono ?_
    rintro e w4 ⟨t, rfl, t0, t1, s5⟩
    have s5 := s5.to2
    clear s3 s4 d3 f3 c3 g3 t1 iw
    by_cases ht : t = 0
    · subst ht
      obtain ⟨d5, f5⟩ := s5.at3.cells
      obtain ⟨c5, g5⟩ := s5.cells
      have s6 := s5.alloc (.cells #[.int .i64 (-1), .int .i64 0, .int .i64 1, .int .i64 999, .int .i64 1000] 3)
      go_wp2_with fail
      refine (pick_st b (m + 13 + 1 + 1) 5 s6.at3 (by omega) (by omega)).mono ?_
      rintro e w5 ⟨q, rfl, q0, q1, s7⟩
      have q2 := q1 (by omega)
      have s7 := s7.to3
      obtain ⟨j, z, rfl, hj, hz5, hz⟩ := lit5n (-1) 0 1 999 1000 q q0 q2
      obtain ⟨l7, _⟩ := s7.cells
      have cz : w5.cell? ⟨w4.heap.size, j, none⟩ = some (.int .i64 z) := by rw [l7 j, hz]
      have s8 := s7.drop
      obtain ⟨d8, f8⟩ := s8.at3.cells
      obtain ⟨c8, g8⟩ := s8.cells
      have s9 := (s8.set 0 (.int .i64 z)).at3
      obtain ⟨c9, _⟩ := s9.at1.cells
      obtain ⟨d9, f9⟩ := s9.cells
      have s10 := (s9.set 0 (.int .i64 z)).set 1 (.slice (some ⟨g, 0, none⟩) st.length cap)
      have q10 := s10.cells.1
      have FIN := Lib.hid (s10.drop.drop)
      have lne := (s8.at3).ne
      clear s5 s6 s7 s8 s9 s10 q1 hz d5 f5 c5 g5 l7
      go_wp2_with fail
      exact bodyPost_ret (v := .agg #[.int .i64 z, .slice (some ⟨g, 0, none⟩) st.length cap]) (by simp [results, Try.results52, go_sem, q10]) rfl ⟨z, _, cap, st, rfl, by omega, by omega, l5, FIN.out⟩
    · have ht' : (t == 0) = false := by simpa using ht
      obtain ⟨d5, f5⟩ := s5.at3.cells
      obtain ⟨c5, g5⟩ := s5.cells
      have s6 := (s5.at3.set 0 (.int .i64 M)).set 1 (.slice (some ⟨g, 0, none⟩) st.length cap)
      have q10 := s6.cells.1
      have FIN := Lib.hid ((s6.drop.drop.at1.rdMono (m' := m + 16) (by omega)).at1)
      clear s5 s6 ht
      go_wp2_with fail
      exact bodyPost_ret (v := .agg #[.int .i64 M, .slice (some ⟨g, 0, none⟩) st.length cap]) (by simp [results, Try.results52, go_sem, q10]) rfl ⟨M, _, cap, st, rfl, by omega, by omega, l5, FIN.out⟩

/-- What DrawBaseRun and DrawBaseOld draw. -/
def DrawnBase (w : World) (e : Ending) (w' : World) : Prop :=
  ∃ (many : Int) (a : Option Addr) (cap : Nat) (s : List Int) (a1 : Option Addr) (cap1 : Nat) (us : List Upd), e = .returned (.tuple #[.agg #[.int .i64 many, .slice a s.length cap], .slice a1 us.length cap1]) ∧ s.length ≤ 5 ∧ us.length ≤ 13 ∧ us.length ≤ cap1 ∧ IntsAt w' a s ∧ UpdsAt w' a1 us ∧ Below w.heap.size w w'

set_option maxHeartbeats 2000000 in
theorem drawBaseRun_calls (a : Option Addr) (n cap : Nat) (w : World) (hc : n ≤ cap) (hm : cap ≤ maxLen) (hb : BytesAt w a n) :
    Calls Try.prog 21 #[.slice a n cap] w (DrawnBase w) := by
  have s0 := (St.start w).alloc (.cells #[.int .i64 0, .slice none 0 0] 29)
  go_enter Try.func21, Try.ntmps21
  go_wp2_with fail
  refine (l6Open_st a n cap s0 hc hm hb).mono ?_
  rintro e w1 ⟨b, rfl, s1⟩
  go_wp2_with fail
  refine (l92Base_st b 0 s1 (by omega)).mono ?_
  rintro e w2 ⟨many, a2, cap2, st, rfl, m0, m1, l5, s2⟩
  have s3 := s2.alloc (.cells #[.int .i64 many, .slice a2 st.length cap2] 29)
  clear s0 s1
  go_wp2_with fail
  generalize w2.alloc (.cells #[.int .i64 many, .slice a2 st.length cap2] 29) = w3 at *
  generalize w2.heap.size = V at *
  have k0 := s3.cells.1 0
  have k1 := s3.cells.1 1
  simp at k0 k1
  have LG := Lib.hid (l91Log_st b 16 s3.drew.at2 (by omega))
  clear s2
  go_region_held3 (fun w' => w'.cell? ⟨V, 0, none⟩ = some (.int .i64 many) ∧ w'.cell? ⟨V, 1, none⟩ = some (.slice a2 st.length cap2))
    (first | go_keep | assumption | (go_split_ands; exact ⟨e0, e1⟩) | (go_split_ands; exact ⟨q0, q1⟩))
    ((go_at_call 50; refine (LG.out).mono ?_; rintro e w4 ⟨v, us, rfl, h1, h2, s4⟩; have s5 := s4.at4; have e0 := s4.at2.cells.1 0; have e1 := s4.at2.cells.1 1; simp at e0 e1; have d0 := s5.cells.1 0; have d1 := s5.cells.1 1; have f0 := s5.cells.2 0; have f1 := s5.cells.2 1; simp at d0 d1; have s6 := (s5.set 0 (.int .i64 many)).set 1 (.slice a2 st.length cap2); have q0 := s6.drop.at2.cells.1 0; have q1 := s6.drop.at2.cells.1 1; simp at q0 q1))
  go_wp2_with fail
  obtain ⟨q, _⟩ := s6.cells
  obtain ⟨a', cap', rfl, hu⟩ := own_cells s6.drop.own
  exact bodyPost_ret (v := .tuple #[.agg #[.int .i64 many, .slice a2 st.length cap2], .slice a' us.length cap']) (by simp [results, Try.results21, go_sem, q]) rfl ⟨many, a2, cap2, st, a', cap', us, rfl, l5, h1, own_cap s6.drop.own, own_intsR s6.drop.drop.drop.drop.own, hu, s6.below⟩

end Go.Proofs.Ytgdbphgcpcihcaa
