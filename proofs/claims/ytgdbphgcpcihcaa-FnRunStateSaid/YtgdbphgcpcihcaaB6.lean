/-
  The walk of the reference's BaseRun. No statement is proved here.
-/
import Derived.Test.YtgdbphgcpcihcaaB5
import Derived.Test.YtgdbphgcpcihcaaFr
namespace Go.Proofs.Ytgdbphgcpcihcaa
open Go.RowKit

theorem St.add2 {w0 w w' : World} {rs : List Res} {r1 r2 : Res} (h : St w0 w rs) (hg : w.grownBy w' none) (h1 : r1.holds w') (b1 : ∀ b, r1.blk = some b → w.heap.size ≤ b ∧ b < w'.heap.size) (h2 : r2.holds w') (b2 : ∀ b, r2.blk = some b → w.heap.size ≤ b ∧ b < w'.heap.size) (ha : Res.apart r1 r2) : St w0 w' (r1 :: r2 :: rs) := by
  refine ⟨h1, fun b hb => ⟨Nat.le_trans h.size (b1 b hb).1, (b1 b hb).2⟩, fun z hz => ?_, h.add hg h2 b2⟩
  rcases List.mem_cons.1 hz with rfl | hz
  · exact ha
  · cases hb : r1.blk with
    | none => exact .inl hb
    | some b =>
      refine .inr fun e => ?_
      have := h.blk_lt z hz b (by rw [← e, hb])
      have := (b1 b hb).1
      omega

set_option maxHeartbeats 4000000 in
set_option maxRecDepth 100000 in
theorem specBaseRun_calls (a a1 : Option Addr) (cap cap1 : Nat) (many : Int) (s : List Int) (us : List Upd) (w : World) (hm : s.length ≤ 1099511627776) (hu : us.length ≤ 1099511627776) (hx : IntsAt w a s) (hy : UpdsAt w a1 us) :
    Calls Try.prog 23 #[.agg #[.int .i64 many, .slice a s.length cap], .slice a1 us.length cap1] w (RanBase w (runMany many s us) (runState many s us) (runOk many s us)) := by
  have s0 := (((St.start w).alloc (.cells #[.int .i64 many, .slice a s.length cap] 29)).alloc (.cells #[.int .i64 0, .slice none 0 0] 29)).at1
  simp only [World.size_alloc] at s0
  have FINB := Lib.hid (fun W R (hb : runOk many s us = false) (h : St w W (box (w.heap.size + 1) #[.int .i64 0, .slice none 0 0] 29 :: R)) => ran_bad hb ((h.set 0 (.int .i64 0)).set 1 (.slice none 0 0)).below)
  cases hb : baseOk many s with
  | false =>
    have F := Lib.hid (run_bad1 (us := us) hb)
    have HV := Lib.hid hb
    clear hb
    go_enter Try.func23, Try.ntmps23
    go_wp2_with fail
    refine (specBaseValid_calls _ _ _ _ _ hm (hx.below s0.below)).mono ?_
    rw [HV.out]
    rintro e w1 ⟨rfl, hb1⟩
    have s1 := (s0.call hb1).at1
    obtain ⟨d1, f1⟩ := s1.cells
    go_wp2_with fail
    exact bodyPost_ret (v := .tuple #[.agg #[.int .i64 0, .slice none 0 0], .bool false]) (by simp [results, Try.results23, go_sem, d1]) rfl (FINB.out _ _ F.out s1)
  | true =>
    obtain ⟨⟨hm0, hm1⟩, hso, _⟩ := baseOk_parts hb
    have hs5 := stateOk_len hso
    cases hl : logOk us with
    | false =>
      have F := Lib.hid (run_bad2 (many := many) (s := s) hl)
      have HV := Lib.hid hb; have HL := Lib.hid hl
      clear hb hl hso hs5
      go_enter Try.func23, Try.ntmps23
      go_wp2_with fail
      refine (specBaseValid_calls _ _ _ _ _ hm (hx.below s0.below)).mono ?_
      rw [HV.out]
      rintro e w1 ⟨rfl, hb1⟩
      have s1 := s0.call hb1
      go_wp2_with fail
      refine (specLogValid_calls _ _ _ _ hu (hy.below s1.below)).mono ?_
      rw [HL.out]
      rintro e w2 ⟨rfl, hb2⟩
      have s2 := (s1.call hb2).at1
      obtain ⟨d1, f1⟩ := s2.cells
      go_wp2_with fail
      exact bodyPost_ret (v := .tuple #[.agg #[.int .i64 0, .slice none 0 0], .bool false]) (by simp [results, Try.results23, go_sem, d1]) rfl (FINB.out _ _ F.out s2)
    | true =>
      obtain ⟨hl12, hall⟩ := logOk_all hl
      have F3 := Lib.hid (fun h => run_bad3 (many := many) (s := s) (us := us) h)
      have FG := Lib.hid (fun h => run_good hb hl h)
      have RL := Lib.hid (runTo_len s us us.length)
      have HV := Lib.hid hb; have HL := Lib.hid hl; have HS5 := Lib.hid hs5
      have l5 : s.length ≤ 5 := by omega
      have HALL := Lib.hid hall
      clear hb hl hso hs5 hall
      go_enter Try.func23, Try.ntmps23
      go_wp2_with fail
      refine (specBaseValid_calls _ _ _ _ _ hm (hx.below s0.below)).mono ?_
      rw [HV.out]
      rintro e w1 ⟨rfl, hb1⟩
      have s1 := s0.call hb1
      go_wp2_with fail
      refine (specLogValid_calls _ _ _ _ hu (hy.below s1.below)).mono ?_
      rw [HL.out]
      rintro e w2 ⟨rfl, hb2⟩
      have s2 := s1.call hb2
      have k0 := s2.cells.1 0
      have k1 := s2.cells.1 1
      simp at k0 k1
      have l2 := s2.lt.2
      have hx2 := hx.below s2.below
      clear s0 s1 hb1 hb2
      go_wp2_with fail
      refine Free.wp_region_puts [8, 11]
        (fun c a w' => w2.grownBy w' none ∧ (c = 2 → ∃ g' cap' y, a.eval (.tmp 6) = .pointer (some ⟨y, 0, none⟩) ∧ g' ≠ y ∧ w2.heap.size ≤ y ∧ w'.heap[y]? = some (.cells #[.int .i64 (many + us.length), .slice (some ⟨g', 0, none⟩) 5 cap'] 29 (0, 0)) ∧
          w'.ownsRow w2.heap.size 3 1 (.slice (some ⟨g', 0, none⟩) 5 cap') 5 (s.map (Value.int .i64))))
        (fun i w1 w2 => (i ≠ 8 → i ≠ 11 → w1.grownBy w2 none) ∧ (i = 8 → ∃ b cs, w1.grownBy w2 (some b) ∧ w1.heap[b]? = some (.cells cs 3 (0, 0))))
        (fun j c v w' => match j with
          | 0 => v = .pointer (some ⟨w.heap.size, 0, none⟩)
          | 1 => v = .int .i64 many
          | 2 => v = .slice a1 us.length cap1
          | 3 => v = .int .i64 us.length
          | 4 => v = .int .i64 (many + us.length)
          | 5 => ∃ b, v = .slice (some ⟨b, 0, none⟩) 0 0 ∧ (c = 0 → w'.ownsRow w2.heap.size 3 1 (.slice (some ⟨b, 0, none⟩) 0 0) 0 [])
          | 6 => v = .pointer (some ⟨w.heap.size, 1, none⟩)
          | 7 => v = .slice a s.length cap
          | 8 => ∃ g' cap', v = .slice (some ⟨g', 0, none⟩) 5 cap' ∧ (c ≤ 1 → w'.ownsRow w2.heap.size 3 1 (.slice (some ⟨g', 0, none⟩) 5 cap') 5 (s.map (Value.int .i64)))
          | 9 => ∃ g' cap', v = .agg #[.int .i64 (many + us.length), .slice (some ⟨g', 0, none⟩) 5 cap'] ∧ (c ≤ 1 → w'.ownsRow w2.heap.size 3 1 (.slice (some ⟨g', 0, none⟩) 5 cap') 5 (s.map (Value.int .i64)))
          | 10 => ∃ y, v = .pointer (some ⟨y, 0, none⟩) ∧ w2.heap.size ≤ y ∧ (c ≤ 1 → w'.heap[y]? = some (.cells #[.int .i64 0, .slice none 0 0] 29 (0, 0)))
          | _ => True)
        (by kernel_rfl) (by kernel_rfl) (by kernel_rfl) ?_ ?_ ?_ ?_
      · intro i j n n' u w1 w2 hph hij haf hR
        have hph' : (i ≠ 8 ∧ i ≠ 11 ∧ n' = n) ∨ (i = 8 ∧ n = 0 ∧ n' = 1) ∨ (i = 11 ∧ n = 1 ∧ n' = 2) := by
          rcases hph with ⟨h1, h2⟩ | ⟨h1, h2⟩
          · match n, h1 with
            | 0, h1 => simp at h1; omega
            | 1, h1 => simp at h1; omega
            | n + 2, h1 => simp at h1
          · simp at h1; omega
        have hown : ∀ B v k ys, w1.ownsRow B 3 1 v k ys → n' = n → w2.ownsRow B 3 1 v k ys := fun B v k ys h e => h.kept (hR.1 (by omega) (by omega)) (by cases v.ownBlock <;> simp)
        match j with
        | 0 | 1 | 2 | 3 | 4 | 6 | 7 => exact id
        | 5 => rintro ⟨b, h1, h2⟩; exact ⟨b, h1, fun e => hown _ _ _ _ (h2 (by omega)) (by omega)⟩
        | 8 => rintro ⟨b, c, h1, h2⟩; exact ⟨b, c, h1, fun e => hown _ _ _ _ (h2 (by omega)) (by omega)⟩
        | 9 =>
          rintro ⟨b, c, h1, h2⟩
          refine ⟨b, c, h1, fun e => hown _ _ _ _ (h2 (by omega)) ?_⟩
          rcases hph' with h | h | h
          · omega
          · exfalso
            obtain ⟨rfl, _⟩ := h
            exact Bool.noConfusion (show true = false from haf)
          · omega
        | 10 =>
          rintro ⟨y, h1, h2, h3⟩
          refine ⟨y, h1, h2, fun e => ?_⟩
          rcases hph' with h | h | h
          · exact heap_kept (h3 (by omega)) (hR.1 h.1 h.2.1) (by simp)
          · obtain ⟨b, cs, h4, h5⟩ := hR.2 h.1
            refine heap_kept (h3 (by omega)) h4 ?_
            intro e'
            cases e'
            rw [h3 (by omega)] at h5
            simp at h5
          · omega
        | n + 11 => exact id
      · exact ⟨grown_drew (grown_refl _ _), by omega⟩
      · have KP : Hid (∀ w', w2.grownBy w' none → w'.cell? ⟨w.heap.size, 0, none⟩ = some (.int .i64 many) ∧ w'.cell? ⟨w.heap.size, 1, none⟩ = some (.slice a s.length cap)) := Lib.hid fun w' h => ⟨h.cell k0 (by simp), h.cell k1 (by simp)⟩
        have iw : IntKind.i64.wrap (many + (us.length : Int)) = many + (us.length : Int) := by rw [IntKind.wrap_i64]; omega
        refine ⟨?_, ?_, ?_, ?_, ?_, ?_, ?_, ?_, ?_, ?_, ?_, ?_⟩
        · intro n n1 n2 a w' hI hk K hK
          have h2 := Free.slot (v := .pointer (some ⟨w.heap.size, 0, none⟩)) (hk 2)
          refine Free.plain rfl ?_
          go_simp
          exact hK _ _ rfl ⟨hI.1, fun e => by have n4 := Nat.le_trans n2 (Nat.le_of_ble_eq_true (m := 1) rfl); omega⟩ ⟨fun _ _ => grown_refl _ _, by omega⟩
        · intro n n1 n2 a w' hI hk K hK
          have h17 := Free.slot (v := .pointer (some ⟨w.heap.size, 0, none⟩)) (hk 17)
          have hc := (KP.out _ hI.1).1
          refine Free.plain rfl ?_
          go_simp
          exact hK _ _ rfl ⟨hI.1, fun e => by have n4 := Nat.le_trans n2 (Nat.le_of_ble_eq_true (m := 1) rfl); omega⟩ ⟨fun _ _ => grown_refl _ _, by omega⟩
        · intro n n1 n2 a w' hI hk K hK
          have h1 := Free.slot (v := .slice a1 us.length cap1) (hk 1)
          refine Free.plain rfl ?_
          go_simp
          exact hK _ _ rfl ⟨hI.1, fun e => by have n4 := Nat.le_trans n2 (Nat.le_of_ble_eq_true (m := 1) rfl); omega⟩ ⟨fun _ _ => grown_refl _ _, by omega⟩
        · intro n n1 n2 a w' hI hk K hK
          have h19 := Free.slot (v := .slice a1 us.length cap1) (hk 19)
          refine Free.plain rfl ?_
          go_simp
          exact hK _ _ rfl ⟨hI.1, fun e => by have n4 := Nat.le_trans n2 (Nat.le_of_ble_eq_true (m := 1) rfl); omega⟩ ⟨fun _ _ => grown_refl _ _, by omega⟩
        · intro n n1 n2 a w' hI hk K hK
          have h18 := Free.slot (v := .int .i64 many) (hk 18)
          have h20 := Free.slot (v := .int .i64 us.length) (hk 20)
          refine Free.plain rfl ?_
          go_simp
          exact hK _ _ rfl ⟨hI.1, fun e => by have n4 := Nat.le_trans n2 (Nat.le_of_ble_eq_true (m := 1) rfl); omega⟩ ⟨fun _ _ => grown_refl _ _, by omega⟩
        · intro n n1 n2 a w' hI hk K hK
          have n3 : n ≤ 0 := n2
          refine Free.plain rfl ?_
          go_simp
          refine hK _ _ ⟨_, rfl, fun _ => ?_⟩ ⟨grown_new hI.1 _, by omega⟩ ⟨fun _ _ => World.grownBy_alloc _ _ _, by omega⟩
          exact World.ownsRow_lit w' #[] 0 hI.1.size (by simp [maxLen]) (by simp)
        · intro n n1 n2 a w' hI hk K hK
          have h2 := Free.slot (v := .pointer (some ⟨w.heap.size, 0, none⟩)) (hk 2)
          refine Free.plain rfl ?_
          go_simp
          exact hK _ _ rfl ⟨hI.1, fun e => by have n4 := Nat.le_trans n2 (Nat.le_of_ble_eq_true (m := 1) rfl); omega⟩ ⟨fun _ _ => grown_refl _ _, by omega⟩
        · intro n n1 n2 a w' hI hk K hK
          have h23 := Free.slot (v := .pointer (some ⟨w.heap.size, 1, none⟩)) (hk 23)
          have hc := (KP.out _ hI.1).2
          refine Free.plain rfl ?_
          go_simp
          exact hK _ _ rfl ⟨hI.1, fun e => by have n4 := Nat.le_trans n2 (Nat.le_of_ble_eq_true (m := 1) rfl); omega⟩ ⟨fun _ _ => grown_refl _ _, by omega⟩
        · intro a' w' hI hk K hK
          obtain ⟨b, h22', ho⟩ := hk 22
          have h24 : a'.eval (.tmp 24) = .slice a s.length cap := hk 24
          have ho' := ho rfl
          have hs5 := HS5.out
          obtain ⟨c, off, rfl, hcs⟩ := (hx2.below (grown_below hI.1)).resolve_left (by intro e; rw [e] at hs5; simp at hs5)
          refine step_appS elem_int rfl _ _ rfl w2.heap.size (.slice (some ⟨b, 0, none⟩) 0 0) 0 [] h22' ⟨c, off, none⟩ s.length cap h24 (s.map (Value.int .i64)) (by simp) (by simp [Value.oneCell']) (by omega) (by omega) (by omega) (fun j u hj => ?_) ho' hI.1.size ?_
          · obtain ⟨hlt, he⟩ := List.getElem?_eq_some_iff.1 hj
            simp at hlt
            have := hcs j hlt
            rw [← he]
            rcases Nat.eq_zero_or_pos j with rfl | hj0
            · simpa [Addr.add, List.getD, hlt] using this
            · simpa [Addr.add, List.getD, hlt, Nat.ne_of_gt hj0] using this
          intro g' cap' w6 hown6 hgrow hat hlt6
          rw [hs5, Nat.zero_add, List.nil_append] at hown6
          rw [hs5, Nat.zero_add]
          have hb := ho'.lt b rfl
          refine hK _ _ ⟨g', cap', rfl, fun _ => hown6⟩ ⟨grown_own hI.1 hgrow (fun x hx => (ho'.lt x hx).1), by omega⟩ ⟨by omega, fun _ => ?_⟩
          rcases ho'.2 with ⟨h1, _⟩ | ⟨b2, c2, cur, h1, _, h2, _⟩
          · cases h1
          · cases h1
            exact ⟨b, cur, hgrow, h2⟩
        · intro n n1 n2 a w' hI hk K hK
          have h21 := Free.slot (v := .int .i64 (many + us.length)) (hk 21)
          obtain ⟨g', cap', h25', ho⟩ := hk 25
          have h25 := Free.slot h25'
          refine Free.plain rfl ?_
          go_simp
          exact hK _ _ ⟨g', cap', rfl, ho⟩ ⟨hI.1, fun e => by have n4 := Nat.le_trans n2 (Nat.le_of_ble_eq_true (m := 1) rfl); omega⟩ ⟨fun _ _ => grown_refl _ _, by omega⟩
        · intro n n1 n2 a w' hI hk K hK
          have n3 : n ≤ 1 := n2
          refine Free.plain rfl ?_
          go_simp
          exact hK _ _ ⟨_, rfl, hI.1.size, fun _ => heap_alloc_new _ _⟩ ⟨grown_new hI.1 _, by omega⟩ ⟨fun _ _ => World.grownBy_alloc _ _ _, by omega⟩
        · intro a w' hI hk K hK
          obtain ⟨y, h6', hy1, hy2⟩ := hk 6
          have h6 := Free.slot h6'
          obtain ⟨g', cap', h26', ho⟩ := hk 26
          have h26 := Free.slot h26'
          have hy := hy2 (Nat.le_refl _)
          have ho' := ho (Nat.le_refl _)
          have c0 : w'.cell? ⟨y, 0, none⟩ = some (.int .i64 0) := by rw [cell_of_heap hy]; rfl
          have c1 : w'.cell? ⟨y, 1, none⟩ = some (.slice none 0 0) := by rw [cell_of_heap hy]; rfl
          have f0 := frozen_of_heap (o := 0) hy
          have f1 := frozen_of_heap (o := 1) hy
          have hgy : g' ≠ y := by
            intro e
            subst e
            rcases ho'.2 with ⟨h1, _⟩ | ⟨b2, c2, cur, h1, _, h2, _⟩
            · cases h1
            · cases h1
              rw [hy] at h2
              simp at h2
          refine Free.plain rfl ?_
          go_simp
          refine hK undef _ trivial ⟨grown_setNew (grown_setNew hI.1 (p := ⟨y, 0, none⟩) hy1 _) (p := ⟨y, 1, none⟩) hy1 _, fun _ => ⟨g', cap', y, h6', hgy, hy1, ?_, ?_⟩⟩ ⟨by omega, by omega⟩
          · exact heap_set (heap_set hy _) _
          · exact (ho'.kept (grown_put w' ⟨y, 0, none⟩ _) (.inr (by simpa [Value.ownBlock] using hgy))).kept (grown_put _ ⟨y, 1, none⟩ _) (.inr (by simpa [Value.ownBlock] using hgy))
      · intro vs w5 hI hp hv
        obtain ⟨g, capg, y, hy6, hgy, hyX, hy, ho⟩ := hI.2 rfl
        have e10 : vs 10 = .pointer (some ⟨y, 0, none⟩) := (hp 10 6 rfl).symm.trans hy6
        simp only [Free.puts, e10]
        have s3 := s2.add2 hI.1 (row_own ho) (by cases hgs : (0 : Nat) with | _ => exact fun b hb => ho.lt b hb) (r2 := box y #[.int .i64 (many + us.length), .slice (some ⟨g, 0, none⟩) 5 capg] 29) hy (fun b hb => by cases hb; exact ⟨hyX, lt_of_heap hy⟩) (.inr (by simpa [row, Value.ownBlock, boxo] using hgy))
        clear hv hI hy6 e10 hp hy ho k0 k1 hgy hyX s2 hx2
        go_wp2_with fail
        go_loopw [7] (fun i wr => ∃ k : Nat, k ≤ us.length ∧ i = .int .i64 k ∧ St w wr (row (.slice (some ⟨g, 0, none⟩) 5 capg) 3 1 5 ((runTo s us k).map (Value.int .i64)) :: box y #[.int .i64 (many + us.length), .slice (some ⟨g, 0, none⟩) 5 capg] 29 :: box w.heap.size #[.int .i64 many, .slice a s.length cap] 29 :: box (w.heap.size + 1) #[.int .i64 0, .slice none 0 0] 29 :: [])) (fun i _ => us.length - (intOf i).toNat)
        case atStart => exact ⟨0, Nat.zero_le _, rfl, s3⟩
        case round =>
          clear s3
          obtain ⟨k, hk, rfl, s3⟩ := hrel
          obtain ⟨y0, _⟩ := s3.at1.cells
          have y1 := y0 1
          simp at y1
          by_cases hlu : k < us.length
          · obtain ⟨b, off, rfl, c0, c1⟩ := (hy.below s3.below).cells k hlu
            obtain ⟨u1, u2, u3, u4⟩ := updOk_yes (HALL.out k hlu)
            have RS := Lib.hid (runTo_succ s us k hlu)
            have RLk := Lib.hid (runTo_len s us k)
            have i1 : (0 : Int) ≤ (k : Int) := by omega
            have i2 : (k : Int) < (us.length : Int) := by omega
            obtain ⟨j, hj⟩ := Int.eq_ofNat_of_zero_le u1
            have hj5 : j < 5 := by omega
            have cj := s3.own.cellAt j (by omega)
            have fj := s3.own.frozenAt j
            rw [List.getElem?_eq_getElem (by rw [List.length_map, RLk.out, HS5.out]; exact hj5)] at cj
            have s4 := s3.drew.rowSet j (.int .i64 us[k].2)
            rw [run_setRow] at s4
            rw [hj] at c0
            have RS2 : Hid (runTo s us (k + 1) = (runTo s us k).set j us[k].2) := Lib.hid (by rw [RS.out, hj]; rfl)
            clear hj RS u1 u2 y0
            generalize us[k].2 = q at *
            have i3 : (0 : Int) ≤ (j : Int) := by omega
            have i4 : (j : Int) < 5 := by omega
            go_wp2_with fail
            go_region
            all_goals
              go_wp2_with fail
              go_roundw
              case rel => exact ⟨k + 1, hlu, by go_num, by rw [RS2.out]; exact s4⟩
              case measure => simp [intOf]; omega
          · obtain rfl : k = us.length := by omega
            have RL5 : Hid ((runTo s us us.length).length = 5) := Lib.hid (by rw [RL.out, HS5.out])
            have BV := Lib.hid (fun A C W => specBaseValid_calls A C (many + us.length) (runTo s us us.length) W (by rw [RL5.out]; omega))
            have GOOD := Lib.hid (fun w' a cap ys (h : runOk many s us = true) hy hs => ran_good (w := w) (w' := w') (a := a) (cap := cap) (ys := ys) h hy hs)
            have RT := Lib.hid (Eq.refl (runTo s us us.length))
            generalize hst : runTo s us us.length = st at *
            clear hst
            have B := BV.out (some ⟨g, 0, none⟩) capg _ (own_intsR (xs := st) (cap := capg) (base := w.heap.size) (by rw [RL5.out]; exact s3.own))
            rw [RL5.out] at B
            have B := Lib.hid B
            have F3o := F3.out; have FGo := FG.out
            go_wp2_with fail
            refine B.out.mono ?_
            rintro e w7 ⟨rfl, hb7⟩
            have s9 := s3.call hb7
            obtain ⟨y0, _⟩ := s9.at1.cells
            have s10 := s9.at3
            obtain ⟨d1, f1⟩ := s10.cells
            have s11 := ((s10.set 0 (.int .i64 (many + us.length))).set 1 (.slice (some ⟨g, 0, none⟩) 5 capg)).drop.only
            clear s3 hb7 B
            cases hv : baseOk (many + us.length) st with
            | false =>
              have FN := Lib.hid (F3o hv)
              clear hv F3o FGo
              go_wp2_with fail
              exact bodyPost_ret (v := .tuple #[.agg #[.int .i64 0, .slice none 0 0], .bool false]) (by simp [results, Try.results23, go_sem, d1]) rfl (FINB.out _ _ FN.out s10)
            | true =>
              have G := GOOD.out _ (some ⟨g, 0, none⟩) capg st (FGo hv) rfl (by rw [RL5.out]; exact s11)
              rw [RL5.out] at G
              have G := Lib.hid G
              clear hv F3o FGo
              go_wp2_with fail
              exact bodyPost_ret (v := .tuple #[.agg #[.int .i64 (many + us.length), .slice (some ⟨g, 0, none⟩) 5 capg], .bool true]) (by simp [results, Try.results23, go_sem, d1]) rfl G.out

end Go.Proofs.Ytgdbphgcpcihcaa
