
/-
  The walk of the program's PlaceOf. No statement is proved here.
-/
import Derived.Test.YtebklbncfcdkmaaX6
namespace Go.Proofs.Ytebklbncfcdkmaa
open Go.RowKit

theorem heap_iface (x : Value) (w : World) : (Instr.makeInterface 46 x).run Try.prog w = .ok (.iface 46 x) w := run_makeInterface w 46 x (by kernel_rfl)
theorem scored_field (x y : Int) (w : World) : (Instr.field 52 (.agg #[.int .i64 x, .int .i64 y]) 0).run Try.prog w = .ok (.int .i64 x) w := by kernel_rfl
/-- What is next out of the heap. -/
theorem heap_next {p : Int} {xs m : List Int} {k : Nat} (hd : xs.Nodup) (hk : k < xs.length) (hp : m.Perm ((rankP p xs).drop k)) (hh : HeapN p m m.length) : 0 < m.length ∧ placeP p xs (k + 1) = placeP p xs k ++ [hat m 0] ∧ ∀ l : List Int, (hat m 0 :: l).Perm m → l.Perm ((rankP p xs).drop (k + 1)) := by
  have hl : k < (rankP p xs).length := by rw [rankP_len]; exact hk
  have hml : m.length = (rankP p xs).length - k := by rw [hp.length_eq, List.length_drop]
  have h0 : 0 < m.length := by omega
  have hmem : hat m 0 ∈ m := by
    simp only [hat, List.getD, List.getElem?_eq_getElem h0, Option.getD_some]
    exact List.getElem_mem h0
  have hr := rank_next hd hk (hp.mem_iff.1 hmem) (fun x hx => heap_best hh x (hp.mem_iff.2 hx))
  refine ⟨h0, by unfold placeP; rw [List.take_add_one, hr]; rfl, fun l hlp => ?_⟩
  have h2 := hlp.trans hp
  rw [List.drop_eq_getElem_cons hl] at h2
  rw [List.getElem?_eq_getElem hl] at hr
  rw [Option.some.inj hr] at h2
  exact List.Perm.cons_inv h2

set_option maxHeartbeats 4000000 in
theorem placeOf_calls (p : Int) (a : Option Addr) (cap : Nat) (xs : List Int) (m : Int) (w : World) (hm : xs.length ≤ 1099511627776) (hx : IntsAt w a xs) :
    Calls Try.prog 9 #[.int .i64 p, .slice a xs.length cap, .int .i64 m] w (GaveInts w (placeR p xs m) (placeOk p xs m)) := by
  have z1 := ((St.start w).alloc (.cells #[] 3)).madeRow 1 0 rfl (by simp [maxLen]) 0 (Nat.le_refl _)
  simp only [List.take_nil] at z1
  by_cases hp : 1 ≤ p ∧ p ≤ 99
  · have HP := Lib.hid (fun w => idValid_yes p w hp)
    cases hs : serversOk xs with
    | false =>
      have NO : Hid (placeOk p xs m = false) := Lib.hid (by rw [placeOk, hs]; simp)
      have FIN := Lib.hid (gaveInts z1 (ys := []) (placeR_no NO.out) NO.out)
      have HS := Lib.hid hs
      clear hs hp z1
      go_enter Try.func9, Try.ntmps9
      go_wp2_with fail
      with_reducible refine (HP.out _).mono ?_
      rintro e w' ⟨rfl, rfl⟩
      go_wp2_with fail
      with_reducible refine (impl_servers _ _ _ _ hm hx).mono ?_
      rw [HS.out]
      rintro e w1 ⟨rfl, rfl⟩
      go_wp2_with fail
      exact bodyPost_ret (v := .tuple #[.slice (some ⟨w.heap.size, 0, none⟩) 0 0, .bool false]) (by simp [results, Try.results9, go_sem]) rfl FIN.out
    | true =>
      obtain ⟨h8, hasc⟩ := (show xs.length ≤ 8 ∧ ascFrom 0 xs = true by simpa [serversOk] using hs)
      by_cases hmm : 1 ≤ m ∧ m ≤ xs.length
      · have YES : Hid (placeOk p xs m = true) := Lib.hid (placeOk_iff.2 ⟨hp, ⟨h8, hasc⟩, hmm⟩)
        obtain ⟨n, rfl⟩ := Int.eq_ofNat_of_zero_le (show 0 ≤ m by omega)
        have hn : n ≤ xs.length := by omega
        have hn1 : 1 ≤ n := by omega
        have hd1 : decide ((n : Int) < 1) = false := decide_eq_false (by omega)
        have hd2 : decide (xs.length < n) = false := decide_eq_false (by omega)
        have HS := Lib.hid hs
        have HPP := Lib.hid hp
        have HASC := Lib.hid hasc
        have HI := heap_iface
        have SI := scored_iface
        have SA := scored_asserted
        have SF := scored_field
        have s1 := ((((St.start w).alloc (.cells #[] 52)).madeRow 2 0 rfl (by simp [maxLen]) 0 (Nat.le_refl _))).allocAt (.cells #[.slice (some ⟨w.heap.size, 0, none⟩) 0 0] 48) (w.heap.size + 1) (by simp)
        simp only [List.take_nil] at s1
        clear hs hp hasc hmm z1
        go_enter Try.func9, Try.ntmps9
        go_wp2_with fail
        with_reducible refine (HP.out _).mono ?_
        rintro e w' ⟨rfl, rfl⟩
        go_wp2_with fail
        with_reducible refine (impl_servers _ _ _ _ hm hx).mono ?_
        rw [HS.out]
        rintro e w1 ⟨rfl, rfl⟩
        go_wp2_with fail
        generalize hw1 : (w.alloc (.cells #[] 52 (0, 0))).alloc (.cells #[.slice (some ⟨w.heap.size, 0, none⟩) 0 0] 48 (0, 0)) = w1 at *
        generalize w.heap.size + 1 = G at *
        clear hw1
        go_loopw [35] (fun i wr => ∃ (k : Nat) (m : List Int) (v : Value), k ≤ xs.length ∧ i = .int .i64 k ∧ m.Perm (xs.take k) ∧ HeapN p m m.length ∧ St w wr [box G #[v] 48, row v 52 2 m.length (hcells p m)]) (fun i _ => xs.length - (intOf i).toNat)
        case atStart => exact ⟨0, [], _, Nat.zero_le _, rfl, .refl _, by intro i h0 h1; simp at h1, s1⟩
        case round =>
          clear s1
          obtain ⟨k, m, v, hk, rfl, hp, hh, s2⟩ := hrel
          have HK := Lib.hid hp
          have HH := Lib.hid hh
          have hml : m.length ≤ 8 := by rw [hp.length_eq]; simp; omega
          clear hp hh
          by_cases hlt : k < xs.length
          · rcases hx.below s2.below with rfl | ⟨bk, off, rfl, hc⟩
            · simp at hlt
            have hcell : wr.cell? ⟨bk, off + k, none⟩ = some (.int .i64 xs[k]) := by
              have := hc k hlt
              simpa [hlt] using this
            have i1 : (0 : Int) ≤ (k : Int) := by omega
            have i2 : (k : Int) < (xs.length : Int) := by omega
            have PS := Lib.hid (fun w => placeScore_calls p xs[k] w HPP.out (asc_valid HASC.out _ (List.getElem_mem hlt)))
            have PU := Lib.hid (heapPush_st p G v m xs[k] s2 (by omega) HH.out)
            have TS := Lib.hid (show ∀ l : List Int, l.Perm (m ++ [xs[k]]) → l.Perm (xs.take (k + 1)) from fun l hl => hl.trans (by rw [List.take_add_one, List.getElem?_eq_getElem hlt]; exact HK.out.append_right _))
            clear hc s2
            generalize xs[k] = x at *
            go_wp2_with fail
            with_reducible refine (PS.out _).mono ?_
            rintro e w' ⟨rfl, rfl⟩
            go_wp2_with fail
            with_reducible refine PU.out.mono ?_
            rintro e w2 ⟨rfl, v2, m2, hp2, hh2, s3⟩
            have HP2 := Lib.hid hp2
            have HH2 := Lib.hid hh2
            clear hp2 hh2
            go_wp2_with fail
            go_roundw
            case rel => exact ⟨k + 1, m2, v2, hlt, by go_num, TS.out _ HP2.out, HH2.out, s3⟩
            case measure => simp [intOf]; omega
          · have HK2 := Lib.hid (show m.Perm ((rankP p xs).drop 0) from by
              have := HK.out
              rw [List.take_of_length_le (by omega)] at this
              exact this.trans (rankP_perm p xs).symm)
            have s3 := ((s2.alloc (.cells #[] 3)).madeRow 1 0 rfl (by simp [maxLen]) 0 (Nat.le_refl _)).to2
            simp only [List.take_nil] at s3
            clear s2 HK
            go_wp2_with fail
            generalize hw2 : wr.alloc (.cells #[] 3 (0, 0)) = w2 at *
            generalize wr.heap.size = B2 at *
            clear hw2
            go_loopw [11, 51] (fun v i wr => ∃ (k : Nat) (m : List Int) (u : Value), k ≤ n ∧ i = .int .i64 k ∧ m.Perm ((rankP p xs).drop k) ∧ HeapN p m m.length ∧ St w wr [box G #[u] 48, row u 52 2 m.length (hcells p m), row v 3 1 (placeP p xs k).length ((placeP p xs k).map (Value.int .i64))]) (fun _ i _ => n - (intOf i).toNat)
            case atStart => exact ⟨0, m, v, Nat.zero_le _, rfl, HK2.out, HH.out, s3⟩
            case round =>
              clear s3 HK2 HH
              obtain ⟨k, m, u, hk, rfl, hp, hh, s4⟩ := hrel
              have hml : m.length ≤ 8 := by rw [hp.length_eq, List.length_drop, rankP_len]; omega
              by_cases hlt : k < n
              · obtain ⟨h0, hnx, hrest⟩ := heap_next (asc_nodup HASC.out) (by omega) hp hh
                have PO := Lib.hid (heapPop_st p G u m s4 h0 (by omega) hh)
                have NX := Lib.hid hnx
                have RE := Lib.hid hrest
                have PLEN : (placeP p xs k).length ≤ 8 := by rw [placeP_len p xs k (by omega)]; omega
                clear hp hh hnx hrest s4
                generalize hat m 0 = z at *
                generalize placeP p xs k = ys at *
                go_wp2_with fail
                with_reducible refine PO.out.mono ?_
                rintro e w4 ⟨rfl, u2, m2, hp2, hh2, s5⟩
                have HP2 := Lib.hid (RE.out _ hp2)
                have HH2 := Lib.hid hh2
                clear hp2 hh2 PO RE
                have s5 := s5.at2
                obtain ⟨va, vc, rfl, _⟩ := s5.ints
                have o5 := s5.own
                have lR := s5.size
                go_wp2_with ((at_builtin; refine list_app elem_int (by rfl) _ _ (by rfl) w.heap.size (.slice va ys.length vc) ys.length (ys.map (Value.int .i64)) (by rfl) w4.heap.size 1 1 (by rfl) #[.int .i64 z] 3 (0, 0) (by rfl) (by simp [Value.oneCell']) (by omega) (by omega) (by omega) (heap_alloc_new w4 _) (o5.alloc _) (by simp; omega) ?_); intro gg cap3 w7 hown hgrow hat hl)
                have s7 := (s5.app (World.grownBy_alloc w4 _ none) hown hgrow hat hl).to2
                clear hown hgrow hat hl s5 o5
                go_wp2_with fail
                go_roundw
                case rel => exact ⟨k + 1, m2, u2, hlt, by go_num, HP2.out, HH2.out, by rw [NX.out]; simpa using s7⟩
                case measure => simp [intOf]; omega
              · have e : k = n := by omega
                subst e
                have FIN := Lib.hid (gaveInts s4.at2 (placeR_yes YES.out) YES.out)
                clear s4 hp hh
                go_wp2_with fail
                go_ret2
                exact FIN.out
      · have NO : Hid (placeOk p xs m = false) := Lib.hid (by cases h : placeOk p xs m with | false => rfl | true => exact absurd (placeOk_iff.1 h).2.2 hmm)
        have FIN := Lib.hid (gaveInts z1 (ys := []) (placeR_no NO.out) NO.out)
        have HS := Lib.hid hs
        clear hs hp hasc z1
        by_cases h1 : m < 1
        · have hd1 : decide (m < 1) = true := decide_eq_true h1
          clear hmm
          go_enter Try.func9, Try.ntmps9
          go_wp2_with fail
          with_reducible refine (HP.out _).mono ?_
          rintro e w' ⟨rfl, rfl⟩
          go_wp2_with fail
          with_reducible refine (impl_servers _ _ _ _ hm hx).mono ?_
          rw [HS.out]
          rintro e w1 ⟨rfl, rfl⟩
          go_wp2_with fail
          exact bodyPost_ret (v := .tuple #[.slice (some ⟨w.heap.size, 0, none⟩) 0 0, .bool false]) (by simp [results, Try.results9, go_sem]) rfl FIN.out
        · have hd1 : decide (m < 1) = false := decide_eq_false h1
          have hd2 : decide ((xs.length : Int) < m) = true := decide_eq_true (by omega)
          clear hmm
          go_enter Try.func9, Try.ntmps9
          go_wp2_with fail
          with_reducible refine (HP.out _).mono ?_
          rintro e w' ⟨rfl, rfl⟩
          go_wp2_with fail
          with_reducible refine (impl_servers _ _ _ _ hm hx).mono ?_
          rw [HS.out]
          rintro e w1 ⟨rfl, rfl⟩
          go_wp2_with fail
          exact bodyPost_ret (v := .tuple #[.slice (some ⟨w.heap.size, 0, none⟩) 0 0, .bool false]) (by simp [results, Try.results9, go_sem]) rfl FIN.out
  · have NO : Hid (placeOk p xs m = false) := Lib.hid (by cases h : placeOk p xs m with | false => rfl | true => exact absurd (placeOk_iff.1 h).1 hp)
    have HP := Lib.hid (fun w => idValid_no p w hp)
    have FIN := Lib.hid (gaveInts z1 (ys := []) (placeR_no NO.out) NO.out)
    clear hp z1
    go_enter Try.func9, Try.ntmps9
    go_wp2_with fail
    with_reducible refine (HP.out _).mono ?_
    rintro e w' ⟨rfl, rfl⟩
    go_wp2_with fail
    exact bodyPost_ret (v := .tuple #[.slice (some ⟨w.heap.size, 0, none⟩) 0 0, .bool false]) (by simp [results, Try.results9, go_sem]) rfl FIN.out

end Go.Proofs.Ytebklbncfcdkmaa
