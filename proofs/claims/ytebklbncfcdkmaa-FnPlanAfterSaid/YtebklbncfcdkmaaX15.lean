
/-
  The walks of PlanLost. No statement is proved here.
-/
import Derived.Test.YtebklbncfcdkmaaX14
namespace Go.Proofs.Ytebklbncfcdkmaa
open Go.RowKit

/-- The pieces all of whose servers are dead. -/
def lostL (ps ss ds : List Int) (m : Int) : List Int := ps.filter fun p => decide ((goneP (placeR p ss m) ds).length = 0)
def lostR (ps ss ds : List Int) (m : Int) : List Int := if planOk ps ss ds m then lostL ps ss ds m else []
theorem lostL_len (ps ss ds : List Int) (m : Int) : (lostL ps ss ds m).length ≤ ps.length := List.length_filter_le _ _
theorem lostL_yes {ps ss ds : List Int} {m x : Int} (h : (goneP (placeR x ss m) ds).length = 0) : lostL (ps ++ [x]) ss ds m = lostL ps ss ds m ++ [x] := by
  unfold lostL
  rw [List.filter_append, List.filter_cons_of_pos (by simpa using h)]
  simp
theorem lostL_no {ps ss ds : List Int} {m x : Int} (h : ¬ (goneP (placeR x ss m) ds).length = 0) : lostL (ps ++ [x]) ss ds m = lostL ps ss ds m := by
  unfold lostL
  rw [List.filter_append, List.filter_cons_of_neg (by simpa using h)]
  simp

set_option maxHeartbeats 4000000 in
theorem planLost_calls (a : Option Addr) (ca : Nat) (ps : List Int) (b : Option Addr) (cb : Nat) (ss : List Int) (c : Option Addr) (cc : Nat) (ds : List Int) (m : Int) (w : World)
    (h1 : ps.length ≤ 1099511627776) (h2 : ss.length ≤ 1099511627776) (h3 : ds.length ≤ 1099511627776) (hp : IntsAt w a ps) (hs : IntsAt w b ss) (hd : IntsAt w c ds) :
    Calls Try.prog 10 #[.slice a ps.length ca, .slice b ss.length cb, .slice c ds.length cc, .int .i64 m] w (GaveInts w (lostR ps ss ds m) (planOk ps ss ds m)) := by
  have PA := Lib.hid (planAlive_calls a ca ps b cb ss c cc ds m w h1 h2 h3 hp hs hd)
  cases hok : planOk ps ss ds m with
  | false =>
    have LR : Hid (lostR ps ss ds m = []) := Lib.hid (by rw [lostR, hok]; rfl)
    rw [hok] at PA
    go_enter Try.func10, Try.ntmps10
    go_wp2_with fail
    with_reducible refine PA.out.mono ?_
    rintro e w1 ⟨va, vc, rfl, _, hb1⟩
    have s2 := (((St.start w).call hb1).alloc (.cells #[] 3)).madeRow 1 0 rfl (by simp [maxLen]) 0 (Nat.le_refl _)
    simp only [List.take_nil] at s2
    have FIN := Lib.hid (gaveInts (ys := []) s2 LR.out (rfl : false = false))
    clear s2
    go_wp2_with fail
    exact bodyPost_ret (v := .tuple #[.slice (some ⟨w1.heap.size, 0, none⟩) 0 0, .bool false]) (by simp [results, Try.results10, go_sem]) rfl FIN.out
  | true =>
    have LR : Hid (lostR ps ss ds m = lostL ps ss ds m) := Lib.hid (by rw [lostR, hok]; rfl)
    obtain ⟨⟨hp12, _⟩, ⟨hs8, _⟩, ⟨hd8, _⟩, _⟩ := planOk_iff.1 hok
    rw [hok] at PA
    go_enter Try.func10, Try.ntmps10
    go_wp2_with fail
    with_reducible refine PA.out.mono ?_
    rintro e w1 ⟨va, vc, rfl, _, hb1⟩
    have s2 := (((St.start w).call hb1).alloc (.cells #[] 3)).madeRow 1 0 rfl (by simp [maxLen]) 0 (Nat.le_refl _)
    simp only [List.take_nil] at s2
    clear hb1
    go_wp2_with fail
    generalize hw2 : w1.alloc (.cells #[] 3 (0, 0)) = w2 at *
    generalize w1.heap.size = B at *
    clear hw2
    go_loopw [12, 31] (fun v i wr => ∃ (k : Nat), k ≤ ps.length ∧ i = .int .i64 k ∧ St w wr [row v 3 1 (lostL (ps.take k) ss ds m).length ((lostL (ps.take k) ss ds m).map (Value.int .i64))]) (fun _ i _ => ps.length - (intOf i).toNat)
    case atStart => exact ⟨0, Nat.zero_le _, rfl, s2⟩
    case round =>
      clear s2
      obtain ⟨k, hk, rfl, s2⟩ := hrel
      by_cases hlt : k < ps.length
      · rcases hp.below s2.below with rfl | ⟨bk, off, rfl, hc⟩
        · simp at hlt
        have hcell : wr.cell? ⟨bk, off + k, none⟩ = some (.int .i64 ps[k]) := by
          have := hc k hlt
          simpa [hlt] using this
        have hcell' := fun (w' : World) (hb : Below wr.heap.size wr w') => (hb.cell (p := ⟨bk, off + k, none⟩) (lt_of_cell hcell)).trans hcell
        have HC := Lib.hid hcell'
        have i1 : (0 : Int) ≤ (k : Int) := by omega
        have i2 : (k : Int) < (ps.length : Int) := by omega
        have TS := Lib.hid (take_snocI hlt)
        have hgl : (lostL (ps.take k) ss ds m).length ≤ 12 := by
          have := lostL_len (ps.take k) ss ds m
          simp at this; omega
        clear hc hcell'
        generalize ps[k] = x at *
        go_wp2_with fail
        with_reducible refine (placeOf_calls x b cb ss m wr h2 (hs.below s2.below)).mono ?_
        rintro e w3 ⟨va, vc, rfl, o3, hb3⟩
        have s3 := s2.call hb3
        have WO := Lib.hid (without_calls va vc (placeR x ss m) c cc ds w3 (Nat.le_trans (placeR_len _ _ _) (by omega)) (by omega) (own_intsR o3) (hd.below s3.below) (fun y hy => (placeR_valid y hy).1))
        clear o3
        have hb3' := hb3
        clear s2
        generalize hold : placeR x ss m = old at *
        generalize old.length = ol at WO ⊢
        go_wp2_with fail
        with_reducible refine WO.out.mono ?_
        rintro e w4 ⟨ua, uc, rfl, _, hb4⟩
        have s4 := s3.call hb4
        have c4 := HC.out w4 (hb3'.trans (hb4.mono hb3'.size))
        clear s3 hb3 hb4 hb3' WO
        have hg8 : (goneP old ds).length ≤ 100 := Nat.le_trans (goneP_len _ _) (by rw [← hold]; exact Nat.le_trans (placeR_len _ _ _) (by omega))
        by_cases h0 : (goneP old ds).length = 0
        · have LO := Lib.hid (show lostL (ps.take (k + 1)) ss ds m = lostL (ps.take k) ss ds m ++ [x] by rw [TS.out, lostL_yes (by rw [hold]; exact h0)])
          clear hold
          generalize lostL (ps.take k) ss ds m = zs at *
          have o5 := s4.own
          have lR := s4.size
          go_wp2_with ((at_builtin; refine list_app elem_int (by rfl) _ _ (by rfl) w.heap.size u12 zs.length (zs.map (Value.int .i64)) (by rfl) w4.heap.size 1 1 (by rfl) #[.int .i64 x] 3 (0, 0) (by rfl) (by simp [Value.oneCell']) (by omega) (by omega) (by omega) (heap_alloc_new w4 _) (o5.alloc _) (by simp; omega) ?_); intro gg cap3 w7 hown hgrow hat hl)
          have s7 := s4.app (World.grownBy_alloc w4 _ none) hown hgrow hat hl
          clear hown hgrow hat hl s4 o5
          go_wp2_with fail
          go_roundw
          case rel => exact ⟨k + 1, hlt, by go_num, by rw [LO.out]; simpa using s7⟩
          case measure => simp [intOf]; omega
        · have LO := Lib.hid (show lostL (ps.take (k + 1)) ss ds m = lostL (ps.take k) ss ds m by rw [TS.out, lostL_no (by rw [hold]; exact h0)])
          have h0' : (((goneP old ds).length : Int) == 0) = false := by simp; intro e; exact h0 (by rw [e]; rfl)
          clear hold h0
          generalize (goneP old ds).length = gl at *
          go_wp2_with fail
          go_roundw
          case rel => exact ⟨k + 1, hlt, by go_num, by rw [LO.out]; exact s4⟩
          case measure => simp [intOf]; omega
      · have e : ps.take k = ps := List.take_of_length_le (by omega)
        rw [e] at s2
        have FIN := Lib.hid (gaveInts s2 LR.out (rfl : true = true))
        clear s2
        go_wp2_with fail
        go_ret2
        exact FIN.out

end Go.Proofs.Ytebklbncfcdkmaa
