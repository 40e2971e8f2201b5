/-
  The walk of the program's BaseRun. No statement is proved here.
-/
import Derived.Test.YtgdbphgcpcihcaaAf
import Derived.Test.YtgdbphgcpcihcaaJn
import Derived.Deep.RegionHeld3
namespace Go.Proofs.Ytgdbphgcpcihcaa
open Go.RowKit

/-- What BaseRun gives. -/
def runOk (many : Int) (s : List Int) (us : List Upd) : Bool := baseOk many s && logOk us && baseOk (many + us.length) (runTo s us us.length)
def runMany (many : Int) (s : List Int) (us : List Upd) : Int := if runOk many s us = true then many + us.length else 0
def runState (many : Int) (s : List Int) (us : List Upd) : List Int := if runOk many s us = true then runTo s us us.length else []
theorem run_bad1 {many : Int} {s : List Int} {us : List Upd} (h : baseOk many s = false) : runOk many s us = false := by rw [runOk, h]; rfl
theorem run_bad2 {many : Int} {s : List Int} {us : List Upd} (h : logOk us = false) : runOk many s us = false := by rw [runOk, h, Bool.and_false]; rfl
theorem run_bad3 {many : Int} {s : List Int} {us : List Upd} (h : baseOk (many + us.length) (runTo s us us.length) = false) : runOk many s us = false := by rw [runOk, h, Bool.and_false]
theorem run_good {many : Int} {s : List Int} {us : List Upd} (h1 : baseOk many s = true) (h2 : logOk us = true) (h3 : baseOk (many + us.length) (runTo s us us.length) = true) : runOk many s us = true := by rw [runOk, h1, h2, h3]; rfl

/-- What a function that makes a base, or fails, hands back. -/
def RanBase (w : World) (many : Int) (s : List Int) (ok : Bool) (e : Ending) (w' : World) : Prop :=
  ∃ (a : Option Addr) (cap : Nat), e = .returned (.tuple #[.agg #[.int .i64 many, .slice a s.length cap], .bool ok]) ∧ w'.ownsRow w.heap.size 3 1 (.slice a s.length cap) s.length (s.map (Value.int .i64)) ∧ Below w.heap.size w w'
theorem ran_bad {w w' : World} {many : Int} {s : List Int} {us : List Upd} (h : runOk many s us = false) (hb : Below w.heap.size w w') :
    RanBase w (runMany many s us) (runState many s us) (runOk many s us) (.returned (.tuple #[.agg #[.int .i64 0, .slice none 0 0], .bool false])) w' := by
  refine ⟨none, 0, ?_, ?_, hb⟩
  · simp [runMany, runState, h]
  · simp only [runState, h]; exact World.ownsRow_nil _ _ _ _
theorem ran_good {w w' : World} {many : Int} {s : List Int} {us : List Upd} {a : Option Addr} {cap : Nat} {ys : List Int} (h : runOk many s us = true) (hy : ys = runTo s us us.length) (hs : St w w' [row (.slice a ys.length cap) 3 1 ys.length (ys.map (Value.int .i64))]) :
    RanBase w (runMany many s us) (runState many s us) (runOk many s us) (.returned (.tuple #[.agg #[.int .i64 (many + us.length), .slice a ys.length cap], .bool true])) w' := by
  subst hy
  refine ⟨a, cap, ?_, ?_, hs.below⟩
  · simp [runMany, runState, h]
  · simp only [runState, h]; exact hs.own

set_option maxHeartbeats 2000000 in
theorem baseRun_calls (a a1 : Option Addr) (cap cap1 : Nat) (many : Int) (s : List Int) (us : List Upd) (w : World) (hm : s.length ≤ 1099511627776) (hu : us.length ≤ 1099511627776) (hx : IntsAt w a s) (hy : UpdsAt w a1 us) :
    Calls Try.prog 22 #[.agg #[.int .i64 many, .slice a s.length cap], .slice a1 us.length cap1] w (RanBase w (runMany many s us) (runState many s us) (runOk many s us)) := by
  have s0 := (((St.start w).alloc (.cells #[.int .i64 many, .slice a s.length cap] 29)).alloc (.cells #[.int .i64 0, .slice none 0 0] 29)).at1
  simp only [World.size_alloc] at s0
  have FINB := Lib.hid (fun W R (hb : runOk many s us = false) (h : St w W (box (w.heap.size + 1) #[.int .i64 0, .slice none 0 0] 29 :: R)) => ran_bad hb ((h.set 0 (.int .i64 0)).set 1 (.slice none 0 0)).below)
  cases hb : baseOk many s with
  | false =>
    have F := Lib.hid (run_bad1 (us := us) hb)
    have HV := Lib.hid hb
    clear hb
    go_enter Try.func22, Try.ntmps22
    go_wp2_with fail
    refine (baseValid_calls _ _ _ _ _ hm (hx.below s0.below)).mono ?_
    rw [HV.out]
    rintro e w1 ⟨rfl, hb1⟩
    have s1 := (s0.call hb1).at1
    obtain ⟨d1, f1⟩ := s1.cells
    go_wp2_with fail
    exact bodyPost_ret (v := .tuple #[.agg #[.int .i64 0, .slice none 0 0], .bool false]) (by simp [results, Try.results22, go_sem, d1]) rfl (FINB.out _ _ F.out s1)
  | true =>
    obtain ⟨⟨hm0, hm1⟩, hso, _⟩ := baseOk_parts hb
    have hs5 := stateOk_len hso
    cases hl : logOk us with
    | false =>
      have F := Lib.hid (run_bad2 (many := many) (s := s) hl)
      have HV := Lib.hid hb; have HL := Lib.hid hl
      clear hb hl hso hs5
      go_enter Try.func22, Try.ntmps22
      go_wp2_with fail
      refine (baseValid_calls _ _ _ _ _ hm (hx.below s0.below)).mono ?_
      rw [HV.out]
      rintro e w1 ⟨rfl, hb1⟩
      have s1 := s0.call hb1
      go_wp2_with fail
      refine (logValid_calls _ _ _ _ hu (hy.below s1.below)).mono ?_
      rw [HL.out]
      rintro e w2 ⟨rfl, hb2⟩
      have s2 := (s1.call hb2).at1
      obtain ⟨d1, f1⟩ := s2.cells
      go_wp2_with fail
      exact bodyPost_ret (v := .tuple #[.agg #[.int .i64 0, .slice none 0 0], .bool false]) (by simp [results, Try.results22, go_sem, d1]) rfl (FINB.out _ _ F.out s2)
    | true =>
      have hl12 := (logOk_all hl).1
      have F3 := Lib.hid (fun h => run_bad3 (many := many) (s := s) (us := us) h)
      have FG := Lib.hid (fun h => run_good hb hl h)
      have RL := Lib.hid (runTo_len s us us.length)
      have HV := Lib.hid hb; have HL := Lib.hid hl; have HS5 := Lib.hid hs5
      have l5 : s.length ≤ 5 := by omega
      clear hb hl hso hs5
      go_enter Try.func22, Try.ntmps22
      go_wp2_with fail
      refine (baseValid_calls _ _ _ _ _ hm (hx.below s0.below)).mono ?_
      rw [HV.out]
      rintro e w1 ⟨rfl, hb1⟩
      have s1 := s0.call hb1
      go_wp2_with fail
      refine (logValid_calls _ _ _ _ hu (hy.below s1.below)).mono ?_
      rw [HL.out]
      rintro e w2 ⟨rfl, hb2⟩
      have s2 := s1.call hb2
      have k0 := s2.cells.1 0
      have k1 := s2.cells.1 1
      simp at k0 k1
      have l2 := s2.lt.2
      have hx2 := hx.below s2.below
      have SF := Lib.hid (fun W rs (h : St w W rs) => stateFrom_st a cap s h (hx.below h.below) HS5.out)
      clear s0 s1 hb1 hb2
      go_wp2_with fail
      go_region_held3 (fun w' => w'.cell? ⟨w.heap.size, 0, none⟩ = some (.int .i64 many) ∧ w'.cell? ⟨w.heap.size, 1, none⟩ = some (.slice a s.length cap))
        (first | go_keep | assumption | (go_split_ands; exact ⟨e0, e1⟩) | (go_split_ands; exact ⟨q0, q1⟩))
        ((go_at_call 57; (first | (refine (SF.out _ _ (by exact (s2.alloc (.cells #[.int .i64 0, .pointer none] 78)).drew)).mono ?_; rintro e w3 ⟨g, rfl, s3⟩; have e0 := s3.drop.drop.cells.1 0; have e1 := s3.drop.drop.cells.1 1; have z0 := s3.drop.cells.1 0; have z1 := s3.drop.cells.1 1; have y0 := s3.drop.cells.2 0; have y1 := s3.drop.cells.2 1; simp at z0 z1; have s4 := ((s3.at1.set 0 (.int .i64 many)).set 1 (.pointer (some ⟨g, 0, none⟩))).at1; have q0 := s4.drop.drop.cells.1 0; have q1 := s4.drop.drop.cells.1 1; simp at q0 q1) | (refine (SF.out _ _ (by exact s2.drew)).mono ?_; rintro e w3 ⟨g, rfl, s3⟩; have e0 := s3.drop.cells.1 0; have e1 := s3.drop.cells.1 1; have s4 := (s3.alloc (.cells #[.int .i64 many, .pointer (some ⟨g, 0, none⟩)] 78)).at1)); simp at e0 e1))
      all_goals
        clear s3 SF
        go_wp2_with fail
        refine (after_st g s many a1 cap1 us s4 HS5.out ⟨hm0, hm1⟩ HL.out hy).mono ?_
        rintro e w4 ⟨rfl, s5⟩
        have s6 := s5.alloc (.cells #[.int .i64 (many + us.length), .pointer (some ⟨g, 0, none⟩)] 78)
        clear s4
        have SF := Lib.hid (fun W rs (h : St w W (box g (arr (runTo s us us.length)) 97 :: rs)) => list_st g (runTo s us us.length) h (by rw [RL.out, HS5.out]))
        have RL5 : Hid ((runTo s us us.length).length = 5) := Lib.hid (by rw [RL.out, HS5.out])
        have BV := Lib.hid (fun A C W => baseValid_calls A C (many + us.length) (runTo s us us.length) W (by rw [RL5.out]; omega))
        have GOOD := Lib.hid (fun w' a cap ys (h : runOk many s us = true) hy hs => ran_good (w := w) (w' := w') (a := a) (cap := cap) (ys := ys) h hy hs)
        have RT := Lib.hid (Eq.refl (runTo s us us.length))
        generalize hst : runTo s us us.length = st at *
        clear hst
        have l7 := s6.lt.2
        go_wp2_with fail
        generalize w4.alloc (.cells #[.int .i64 (many + us.length), .pointer (some ⟨g, 0, none⟩)] 78) = w5 at *
        generalize w4.heap.size = L7 at *
        have k0 := s6.cells.1 0
        have k1 := s6.cells.1 1
        simp at k0 k1
        go_region_held3 (fun w' => w'.cell? ⟨L7, 0, none⟩ = some (.int .i64 (many + us.length)) ∧ w'.cell? ⟨L7, 1, none⟩ = some (.pointer (some ⟨g, 0, none⟩)))
          (first | go_keep | assumption | (go_split_ands; exact ⟨e0, e1⟩) | (go_split_ands; exact ⟨q0, q1⟩))
          ((go_at_call 61; (first | (refine (SF.out _ _ (by exact (s6.alloc (.cells #[.int .i64 0, .slice none 0 0] 29)).at2.drew)).mono ?_; rintro e w6 ⟨a6, cap6, rfl, s7⟩; have e0 := s7.drop.drop.drop.cells.1 0; have e1 := s7.drop.drop.drop.cells.1 1; have z0 := s7.drop.drop.cells.1 0; have z1 := s7.drop.drop.cells.1 1; have y0 := s7.drop.drop.cells.2 0; have y1 := s7.drop.drop.cells.2 1; simp at z0 z1; have s8 := ((s7.at2.set 0 (.int .i64 (many + us.length))).set 1 (.slice a6 st.length cap6)); have q0 := s8.drop.drop.drop.cells.1 0; have q1 := s8.drop.drop.drop.cells.1 1; simp at q0 q1) | (refine (SF.out _ _ (by exact s6.at1.drew)).mono ?_; rintro e w6 ⟨a6, cap6, rfl, s7⟩; have e0 := s7.drop.drop.cells.1 0; have e1 := s7.drop.drop.cells.1 1; have s8 := s7.alloc (.cells #[.int .i64 (many + us.length), .slice a6 st.length cap6] 29))); simp at e0 e1))
        all_goals
          clear s7 s6 s5 SF k0 k1
          go_wp2_with fail
          refine (BV.out a6 cap6 _ (own_intsR s8.at1.own)).mono ?_
          rintro e w7 ⟨rfl, hb7⟩
          have s9 := s8.call hb7
          obtain ⟨d0, _⟩ := s9.cells
          have s10 := s9.drop.at5
          obtain ⟨d1, f1⟩ := s10.cells
          have s11 := ((s10.set 0 (.int .i64 (many + us.length))).set 1 (.slice a6 st.length cap6)).drop.only
          have F3o := F3.out; have FGo := FG.out
          clear s8 hb7
          cases hv : baseOk (many + us.length) st with
          | false =>
            have FN := Lib.hid (F3o hv)
            clear hv F3o FGo
            go_wp2_with fail
            exact bodyPost_ret (v := .tuple #[.agg #[.int .i64 0, .slice none 0 0], .bool false]) (by simp [results, Try.results22, go_sem, d1]) rfl (FINB.out _ _ FN.out s10)
          | true =>
            have FN := Lib.hid (FGo hv)
            clear hv F3o FGo
            go_wp2_with fail
            exact bodyPost_ret (v := .tuple #[.agg #[.int .i64 (many + us.length), .slice a6 st.length cap6], .bool true]) (by simp [results, Try.results22, go_sem, d1]) rfl (GOOD.out _ _ _ _ FN.out rfl s11)

end Go.Proofs.Ytgdbphgcpcihcaa
