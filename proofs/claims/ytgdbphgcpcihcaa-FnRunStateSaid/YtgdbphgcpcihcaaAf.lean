/-
  The walk of the closure of BaseRun and of the generic method 'after'. No statement is proved here.
-/
import Derived.Test.YtgdbphgcpcihcaaB4
import Derived.Deep.RegionHeld3
namespace Go.Proofs.Ytgdbphgcpcihcaa
open Go.RowKit

theorem runPut_st {w0 w : World} {rs : List Res} (g : Nat) (s : List Int) (k v : Int) (h : St w0 w (box g (arr s) 97 :: rs)) (hl : s.length = 5) (hk : 0 ≤ k ∧ k ≤ 4) :
    Calls Try.prog 59 #[.pointer (some ⟨g, 0, none⟩), .agg #[.int .i64 k, .int .i64 v]] w fun e w' => e = .returned (.pointer (some ⟨g, 0, none⟩)) ∧ St w0 w' (box g (arr (s.set k.toNat v)) 97 :: rs) := by
  have s1 := (h.alloc (.cells #[.int .i64 k, .int .i64 v] 67)).drop
  have PU := Lib.hid (put_st g s k v s1 hl hk)
  clear hl
  go_enter Try.func59, Try.ntmps59
  go_wp2_with fail
  refine PU.out.mono ?_
  rintro e w1 ⟨rfl, s2⟩
  go_wp2_with fail
  go_ret
  exact ⟨rfl, s2⟩

set_option maxHeartbeats 2000000 in
theorem after_st {w0 w : World} {rs : List Res} (g : Nat) (s : List Int) (many : Int) (a : Option Addr) (cap : Nat) (us : List Upd) (h : St w0 w (box g (arr s) 97 :: rs)) (hl : s.length = 5) (hm : 0 ≤ many ∧ many ≤ 999) (hv : logOk us = true) (hx : UpdsAt w0 a us) :
    Calls Try.prog 58 #[.agg #[.int .i64 many, .pointer (some ⟨g, 0, none⟩)], .slice a us.length cap, .func (.func 59) #[] #[]] w fun e w' => e = .returned (.agg #[.int .i64 (many + us.length), .pointer (some ⟨g, 0, none⟩)]) ∧ St w0 w' (box g (arr (runTo s us us.length)) 97 :: rs) := by
  obtain ⟨hl12, hall⟩ := logOk_all hv
  have HALL := Lib.hid hall
  have HL := Lib.hid hl
  obtain ⟨hm0, hm1⟩ := hm
  have s0 := ((h.alloc (.cells #[.int .i64 many, .pointer (some ⟨g, 0, none⟩)] 78)).alloc (.cells #[.int .i64 0, .pointer none] 78)).at1
  simp only [World.size_alloc] at s0
  clear hv hall hl h
  go_enter Try.func58, Try.ntmps58
  go_wp2_with fail
  go_loopw [8, 11] (fun _ i wr => ∃ k : Nat, k ≤ us.length ∧ i = .int .i64 k ∧ St w0 wr (box w.heap.size #[.int .i64 (many + k), .pointer (some ⟨g, 0, none⟩)] 78 :: box (w.heap.size + 1) #[.int .i64 0, .pointer none] 78 :: box g (arr (runTo s us k)) 97 :: rs)) (fun _ i _ => us.length - (intOf i).toNat)
  case atStart => exact ⟨0, Nat.zero_le _, rfl, by simpa [runTo_zero] using s0⟩
  case round =>
    clear s0
    obtain ⟨k, hk, rfl, s1⟩ := hrel
    by_cases hlt : k < us.length
    · obtain ⟨b, off, rfl, c0, c1⟩ := (hx.below s1.below).cells k hlt
      obtain ⟨u1, u2, u3, u4⟩ := updOk_yes (HALL.out k hlt)
      have RS := Lib.hid (runTo_succ s us k hlt)
      have RL := Lib.hid (runTo_len s us k)
      have i1 : (0 : Int) ≤ (k : Int) := by omega
      have i2 : (k : Int) < (us.length : Int) := by omega
      have i3 : (0 : Int) ≤ many + (k : Int) := by omega
      have i4 : IntKind.i64.wrap (many + (k : Int) + 1) = many + (k : Int) + 1 := by rw [IntKind.wrap_i64]; omega
      generalize us[k].1 = p at *
      generalize us[k].2 = q at *
      generalize runTo s us k = sk at *
      have s2 := s1.alloc (.cells #[.int .i64 p, .int .i64 q] 67)
      have k0 := s2.at1.cells.1 0
      have k1 := s2.at1.cells.1 1
      have k2 := s2.cells.1 0
      have k3 := s2.cells.1 1
      have z0 := s2.at1.cells.2 0
      have z1 := s2.at1.cells.2 1
      simp at k0 k1 k2 k3 z0 z1
      have s3 := s2.at3
      have q1 := s1.lt.2
      have PU := Lib.hid (runPut_st g sk p q s3.drew (by rw [RL.out, HL.out]) ⟨u1, u2⟩)
      go_wp2_with fail
      go_region_with ((go_at_call 59; refine (PU.out).mono ?_; rintro e w5 ⟨rfl, s5⟩; have e0 := s5.drop.drop.cells.1 0; have e1 := s5.drop.drop.cells.1 1; have e2 := s5.drop.cells.1 0; have e3 := s5.drop.cells.1 1; have f0 := s5.drop.drop.cells.2 0; have f1 := s5.drop.drop.cells.2 1; simp at e0 e1 e2 e3))
      all_goals
        have t1 := (((s5.at2.set 0 (.int .i64 (many + k + 1))).set 1 (.pointer (some ⟨g, 0, none⟩))).under (fun h => (h.at1.drop).at1) (by intro z; simp only [List.mem_cons]; rintro (h|h|h) <;> simp [h]))
        go_wp2_with fail
        go_roundw
        case rel => exact ⟨k + 1, hlt, by go_num, by rw [RS.out]; have := t1; simpa [Int.add_assoc] using this⟩
        case measure => simp [intOf]; omega
    · obtain rfl : k = us.length := by omega
      obtain ⟨c1, _⟩ := s1.cells
      obtain ⟨d1, f1⟩ := s1.at1.cells
      have s2 := (((s1.at1.set 0 (.int .i64 (many + us.length))).set 1 (.pointer (some ⟨g, 0, none⟩))).drop).drop
      go_wp2_with fail
      exact bodyPost_ret (v := .agg #[.int .i64 (many + us.length), .pointer (some ⟨g, 0, none⟩)]) (by simp [results, Try.results58, go_sem, d1]) rfl ⟨rfl, s2⟩

end Go.Proofs.Ytgdbphgcpcihcaa
