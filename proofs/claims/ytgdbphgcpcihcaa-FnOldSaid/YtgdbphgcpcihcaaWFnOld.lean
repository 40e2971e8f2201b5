/-
  The walk of FnOld.
-/
import Derived.Test.YtgdbphgcpcihcaaD9
import Derived.Test.YtgdbphgcpcihcaaB4
import Derived.Test.YtgdbphgcpcihcaaP7
import Derived.Test.YtgdbphgcpcihcaaSi
import Derived.Deep.RegionHeld3
namespace Go.Proofs.Ytgdbphgcpcihcaa.fnOld
open Go.RowKit Go.Proofs.Ytgdbphgcpcihcaa

theorem old_no {many : Int} {s : List Int} {us : List Upd} (h : oldOf many s us = false) (h1 : baseOk many s = true) (h2 : logOk us = true) : stateAt us many = s := by
  rw [oldOf, h1, h2, Bool.true_and, Bool.true_and, Bool.or_eq_false_iff] at h
  simpa using h.2

set_option maxHeartbeats 4000000 in
theorem walk (a0 : Option Addr) (len0 cap0 : Nat) (z0 : List Int) (w : World) (w0 : IsRow .u8 w a0 len0 cap0 z0) :
    Calls Try.prog 7 #[.slice a0 len0 cap0] w fun e w' => e = .returned (.bool true) ∧ Below w.heap.size w w' := by
  have hle := w0.le
  have hby := w0.bytes
  clear w0
  by_cases hbig : len0 ≤ 1048576
  · go_enter Try.func7, Try.ntmps7
    go_wp2_with fail
    refine (drawBaseOld_calls _ _ _ _ hle.1 hle.2 hby).mono ?_
    rintro e w1 ⟨many, a, cap, s, a1, cap1, us, rfl, hsl, hul, hcap, hx, hy, hb1⟩
    have hm : s.length ≤ 1099511627776 := by omega
    have hu : us.length ≤ 1099511627776 := by omega
    have HB := Lib.hid (fun W R (k : St w1 W R) => hb1.trans (k.below.mono hb1.size))
    have s1 := (St.start w1).alloc (.cells #[.int .i64 many, .slice a s.length cap] 29)
    have IM := Lib.hid (fun W h1 h2 => baseOld_calls a a1 cap cap1 many s us W hm hu hcap h1 h2)
    have SP := Lib.hid (fun W h1 h2 => specBaseOld_calls a a1 cap cap1 many s us W hm hu h1 h2)
    have BV := Lib.hid (fun W h1 => specBaseValid_calls a cap many s W hm h1)
    have LV := Lib.hid (fun W h1 => specLogValid_calls a1 cap1 us W hu h1)
    have NO := Lib.hid (@old_no many s us)
    have SA := Lib.hid (fun W h1 => stateAt_calls a1 cap1 us many W hu hcap h1)
    unfold MadeInts at SA
    clear hby hb1
    generalize oldOf many s us = old at *
    generalize baseOk many s = bok at *
    generalize logOk us = lok at *
    generalize hst : stateAt us many = st at *
    clear hst
    go_wp2_with fail
    refine (IM.out _ (hx.below s1.below) (hy.below s1.below)).mono ?_
    rintro e w2 ⟨rfl, hb2⟩
    have s2 := s1.call hb2
    obtain ⟨c2, _⟩ := s2.cells
    clear s1 hb2
    go_wp2_with fail
    refine (SP.out _ (hx.below s2.below) (hy.below s2.below)).mono ?_
    rintro e w3 ⟨rfl, hb3⟩
    have s3 := s2.call hb3
    obtain ⟨c3, _⟩ := s3.cells
    clear s2 hb3 c2
    cases old with
    | true =>
      go_wp2_with fail
      go_ret
      exact ⟨rfl, HB.out _ _ s3⟩
    | false =>
      go_wp2_with fail
      refine (BV.out _ (hx.below s3.below)).mono ?_
      rintro e w4 ⟨rfl, hb4⟩
      have s4 := s3.call hb4
      obtain ⟨c4, _⟩ := s4.cells
      clear s3 hb4 c3
      cases bok with
      | false =>
        go_wp2_with fail
        go_ret
        exact ⟨rfl, HB.out _ _ s4⟩
      | true =>
        go_wp2_with fail
        refine (LV.out _ (hy.below s4.below)).mono ?_
        rintro e w5 ⟨rfl, hb5⟩
        have s5 := s4.call hb5
        obtain ⟨c5, _⟩ := s5.cells
        clear s4 hb5 c4
        cases lok with
        | false =>
          go_wp2_with fail
          go_ret
          exact ⟨rfl, HB.out _ _ s5⟩
        | true =>
          obtain rfl := NO.out (by simp) (by simp) (by simp)
          have k0 := s5.cells.1 0
          have k1 := s5.cells.1 1
          simp at k0 k1
          have hy5 := hy.below s5.below
          have hx5 := hx.below s5.below
          go_wp2_with fail
          go_region_held3 (fun w' => w'.cell? ⟨w1.heap.size, 0, none⟩ = some (.int .i64 many) ∧ w'.cell? ⟨w1.heap.size, 1, none⟩ = some (.slice a st.length cap))
            (first | go_keep | assumption | (go_split_ands; exact ⟨e0, e1⟩) | (go_split_ands; exact ⟨f0, f1⟩))
            ((first | (go_at_call 32; refine (SA.out _ (by exact hy5)).mono ?_; rintro e w6 ⟨a6, cap6, rfl, ho6, hb6⟩; have s6 := s5.drew.fresh hb6 ho6 (Nat.le_refl _); have e0 := s6.drop.cells.1 0; have e1 := s6.drop.cells.1 1; simp at e0 e1; have hx6 := hx5.below (drew_below hb6)) | (go_at_call 31; refine (sameInts_eq _ _ _ _ _ _ hm (by exact own_intsR s6.own) (by exact hx6)).mono ?_; rintro e w7 ⟨rfl, hb7⟩; have s7 := s6.call hb7; have f0 := s7.drop.cells.1 0; have f1 := s7.drop.cells.1 1; simp at f0 f1)))
          go_wp2_with fail
          go_ret
          exact ⟨rfl, HB.out _ _ s7⟩
  · go_enter Try.func7, Try.ntmps7
    go_wp2_with fail
    go_ret
    exact ⟨rfl, Below.refl _ _⟩

end Go.Proofs.Ytgdbphgcpcihcaa.fnOld
