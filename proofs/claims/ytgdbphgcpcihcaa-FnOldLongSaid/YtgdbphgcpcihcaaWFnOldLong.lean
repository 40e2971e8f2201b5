/-
  The walk of FnOldLong.
-/
import Derived.Test.YtgdbphgcpcihcaaD9
import Derived.Test.YtgdbphgcpcihcaaB4
import Derived.Test.YtgdbphgcpcihcaaSl
import Derived.Test.YtgdbphgcpcihcaaP7
import Derived.Deep.RegionHeld3
namespace Go.Proofs.Ytgdbphgcpcihcaa.fnOldLong
open Go.RowKit Go.Proofs.Ytgdbphgcpcihcaa

theorem cells_take {w : World} {a : Option Addr} {cs : List Value} (h : CellsAt w a cs) (n : Nat) : CellsAt w a (cs.take n) := by
  rcases h with rfl | ⟨b, off, rfl, hc⟩
  · exact .inl (by simp)
  · refine .inr ⟨b, off, rfl, fun j hj => ?_⟩
    rw [List.length_take] at hj
    rw [hc j (by omega), List.getElem?_take, if_pos (by omega)]
theorem ucells_take (us : List Upd) (k : Nat) : (ucells us).take (k * 2) = ucells (us.take k) := by
  induction us generalizing k with
  | nil => simp [ucells]
  | cons u r ih =>
    cases k with
    | zero => simp [ucells]
    | succ k =>
      have := ih k
      rw [show (k + 1) * 2 = k * 2 + 1 + 1 by omega]
      simpa [ucells] using this
theorem upds_take {w : World} {a : Option Addr} {us : List Upd} (h : UpdsAt w a us) (k : Nat) : UpdsAt w a (us.take k) := by
  unfold UpdsAt
  rw [← ucells_take]
  exact cells_take h _
theorem old_short {many : Int} {s : List Int} {us : List Upd} (h : oldOf many s us = false) (h1 : baseOk many s = true) (h2 : logOk us = true) (h0 : ¬ many = 0) : ∃ K : Nat, many = (K : Int) + 1 ∧ K < us.length ∧ oldOf ((K : Int) + 1) s (us.take K) = true := by
  obtain ⟨⟨m0, _⟩, _⟩ := baseOk_parts h1
  obtain ⟨K, hK⟩ := Int.eq_ofNat_of_zero_le (show 0 ≤ many - 1 by omega)
  have e : many = (K : Int) + 1 := by omega
  subst e
  have hlt : ¬ ((us.length : Int) < (K : Int) + 1) := fun hh => by
    rw [old_long h1 h2 hh] at h
    cases h
  refine ⟨K, rfl, by omega, old_long h1 (logOk_take h2 K) ?_⟩
  rw [List.length_take]
  omega
theorem run_to9 {P : Program} (t e : TypeId) (size : Nat) (a : Option Addr) (len cap k : Nat) (hu : P.underlying t = some (.slice e)) (hs : (P.info? e).map (·.size) = some size) (hk : k ≤ cap) (w : World) :
    (Instr.slice t (.slice a len cap) none (some (.int .i64 k)) none).run P w = .ok (.slice a k cap) w := run_to t e size a len cap k hu hs hk w
theorem info_upd9 : (Try.prog.info? 67).map (·.size) = some 2 := by kernel_rfl

set_option maxHeartbeats 4000000 in
theorem walk (a0 : Option Addr) (len0 cap0 : Nat) (z0 : List Int) (w : World) (w0 : IsRow .u8 w a0 len0 cap0 z0) :
    Calls Try.prog 4 #[.slice a0 len0 cap0] w fun e w' => e = .returned (.bool true) ∧ Below w.heap.size w w' := by
  have hle := w0.le
  have hby := w0.bytes
  clear w0
  by_cases hbig : len0 ≤ 1048576
  · go_enter Try.func4, Try.ntmps4
    go_wp2_with fail
    refine (drawBaseOld_calls _ _ _ _ hle.1 hle.2 hby).mono ?_
    rintro e w1 ⟨many, a, cap, s, a1, cap1, us, rfl, hsl, hul, hcap, hx, hy, hb1⟩
    have hm : s.length ≤ 1099511627776 := by omega
    have hu : us.length ≤ 1099511627776 := by omega
    have HB := Lib.hid (fun W R (k : St w1 W R) => hb1.trans (k.below.mono hb1.size))
    have s1 := (St.start w1).alloc (.cells #[.int .i64 many, .slice a s.length cap] 29)
    have IM := Lib.hid (fun W h1 h2 => baseOld_calls a a1 cap cap1 many s us W hm hu hcap h1 h2)
    have SP := Lib.hid (fun W h1 h2 => specBaseOld_calls a a1 cap cap1 many s us W hm hu h1 h2)
    have BV := Lib.hid (fun W h1 => specBaseValid_calls a cap many s W hm h1)
    have LV := Lib.hid (fun W h1 => specLogValid_calls a1 cap1 us W hu h1)
    have NO := Lib.hid (@old_short many s us)
    have IM2 := Lib.hid (fun W K h1 h2 => baseOld_calls a a1 cap cap1 many s (us.take K) W hm (by rw [List.length_take]; omega) (by rw [List.length_take]; omega) h1 h2)
    have HT := Lib.hid (fun W (h : UpdsAt W a1 us) K => upds_take h K)
    clear hby hb1
    generalize oldOf many s us = old at *
    generalize baseOk many s = bok at *
    generalize logOk us = lok at *
    go_wp2_with fail
    refine (IM.out _ (hx.below s1.below) (hy.below s1.below)).mono ?_
    rintro e w2 ⟨rfl, hb2⟩
    have s2 := s1.call hb2
    obtain ⟨c2, _⟩ := s2.cells
    clear s1 hb2
    go_wp2_with fail
    refine (SP.out _ (hx.below s2.below) (hy.below s2.below)).mono ?_
    rintro e w3 ⟨rfl, hb3⟩
    have s3 := s2.call hb3
    obtain ⟨c3, _⟩ := s3.cells
    clear s2 hb3 c2
    cases old with
    | true =>
      go_wp2_with fail
      go_ret
      exact ⟨rfl, HB.out _ _ s3⟩
    | false =>
      go_wp2_with fail
      refine (BV.out _ (hx.below s3.below)).mono ?_
      rintro e w4 ⟨rfl, hb4⟩
      have s4 := s3.call hb4
      obtain ⟨c4, _⟩ := s4.cells
      clear s3 hb4 c3
      cases bok with
      | false =>
        go_wp2_with fail
        go_ret
        exact ⟨rfl, HB.out _ _ s4⟩
      | true =>
        go_wp2_with fail
        refine (LV.out _ (hy.below s4.below)).mono ?_
        rintro e w5 ⟨rfl, hb5⟩
        have s5 := s4.call hb5
        obtain ⟨c5, _⟩ := s5.cells
        clear s4 hb5 c4
        cases lok with
        | false =>
          go_wp2_with fail
          go_ret
          exact ⟨rfl, HB.out _ _ s5⟩
        | true =>
          have NO := NO.out (by simp) (by simp) (by simp)
          by_cases h0 : many = 0
          · subst h0
            clear NO
            go_wp2_with fail
            go_ret
            exact ⟨rfl, HB.out _ _ s5⟩
          · have h0' : (many == 0) = false := by simpa using h0
            obtain ⟨K, hmK, hK, hT⟩ := NO h0
            have MK := Lib.hid hmK
            have hT := Lib.hid hT
            have hsl := run_to9 (P := Try.prog) 23 67 2 a1 us.length cap1 K Try.underlying23 info_upd9 (by omega)
            have iw : IntKind.i64.wrap (many - 1) = (K : Int) := by rw [MK.out, IntKind.wrap_i64]; omega
            have k0 := s5.cells.1 0
            have k1 := s5.cells.1 1
            simp at k0 k1
            have I2 := Lib.hid (IM2.out w5.drew K (hx.below (s5.drew).below) (HT.out _ (hy.below (s5.drew).below) K))
            have E2 := Lib.hid (show oldOf many s (us.take K) = true by rw [MK.out]; exact hT.out)
            rw [E2.out, show (us.take K).length = K by rw [List.length_take]; omega] at I2
            clear h0 hmK NO
            go_wp2_with fail
            go_region_held3 (fun w' => w'.cell? ⟨w1.heap.size, 0, none⟩ = some (.int .i64 many) ∧ w'.cell? ⟨w1.heap.size, 1, none⟩ = some (.slice a s.length cap))
              (first | go_keep | assumption | (go_split_ands; exact ⟨e0, e1⟩))
              ((go_at_call 16; refine (I2.out).mono ?_; rintro e w6 ⟨rfl, hb6⟩; have s6 := s5.drew.call hb6; have e0 := s6.cells.1 0; have e1 := s6.cells.1 1; simp at e0 e1))
            go_wp2_with fail
            go_ret
            exact ⟨rfl, HB.out _ _ s6⟩
  · go_enter Try.func4, Try.ntmps4
    go_wp2_with fail
    go_ret
    exact ⟨rfl, Below.refl _ _⟩

end Go.Proofs.Ytgdbphgcpcihcaa.fnOldLong
