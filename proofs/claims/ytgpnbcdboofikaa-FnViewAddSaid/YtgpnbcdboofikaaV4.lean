
/-
  The walk of the program's ViewNext. No statement is proved here.
-/
import Derived.Test.YtgpnbcdboofikaaV3
import Derived.Test.YtgpnbcdboofikaaP3
import Derived.Test.YtgpnbcdboofikaaD2
import Derived.Test.YtgpnbcdboofikaaBt
namespace Go.Proofs.Ytgpnbcdboofikaa
open Go.RowKit

/-- What ViewNext hands back. -/
def Nexted (w : World) (num : Int) (xs failed fresh : List Int) (e : Ending) (w' : World) : Prop :=
  ∃ (a : Option Addr) (cap : Nat), e = .returned (.tuple #[.agg #[.int .i64 (nextNum num xs failed fresh), .slice a (nextIds num xs failed fresh).length cap], .bool (nextOk num xs failed fresh)]) ∧
    w'.ownsRow w.heap.size 3 1 (.slice a (nextIds num xs failed fresh).length cap) (nextIds num xs failed fresh).length ((nextIds num xs failed fresh).map (Value.int .i64)) ∧ Below w.heap.size w w'

theorem nexted_bad {w w' : World} {num : Int} {xs failed fresh : List Int} (h : nextOk num xs failed fresh = false) (hb : Below w.heap.size w w') :
    Nexted w num xs failed fresh (.returned (.tuple #[.agg #[.int .i64 0, .slice none 0 0], .bool false])) w' := by
  obtain ⟨e1, e2⟩ := nextIds_bad h
  refine ⟨none, 0, ?_, ?_, hb⟩
  · rw [e1, e2, h]; rfl
  · rw [e1]; exact World.ownsRow_nil _ _ _ _

theorem nexted_good {w w8 : World} {num : Int} {xs failed fresh ys : List Int} {a : Option Addr} {cap : Nat} (h : nextOk num xs failed fresh = true) (hy : ys = keptIds xs failed ++ fresh)
    (ho : w8.ownsRow (w.heap.size + 2) 3 1 (.slice a ys.length cap) ys.length (ys.map (Value.int .i64))) (hb : Below w.heap.size w w8) :
    Nexted w num xs failed fresh (.returned (.tuple #[.agg #[.int .i64 (num + 1), .slice a ys.length cap], .bool true])) ((w8.setCell ⟨w.heap.size + 1, 0, none⟩ (.int .i64 (num + 1))).setCell ⟨w.heap.size + 1, 1, none⟩ (.slice a ys.length cap)) := by
  obtain ⟨e1, e2⟩ := nextIds_good h
  rw [← hy] at e1
  have hne : (Value.slice a ys.length cap).ownBlock ≠ some (w.heap.size + 1) := fun e => by have := (ho.lt _ e).1; omega
  refine ⟨a, cap, ?_, ?_, ?_⟩
  · rw [e1, e2, h]
  · rw [e1]
    refine ownsRow_mono ?_ (Nat.le_add_right _ 2)
    exact (ho.kept (grown_put w8 ⟨w.heap.size + 1, 0, none⟩ _) (.inr hne)).kept (grown_put _ ⟨w.heap.size + 1, 1, none⟩ _) (.inr hne)
  · exact (hb.setCell (p := ⟨w.heap.size + 1, 0, none⟩) (by simp) _).setCell (p := ⟨w.heap.size + 1, 1, none⟩) (by simp) _

theorem below_set {w wi : World} (hb : Below w.heap.size w wi) {p : Addr} (hp : w.heap.size ≤ p.block) (v : Value) : Below w.heap.size w (wi.setCell p v) := hb.setCell hp v

set_option maxHeartbeats 2000000 in
theorem viewNext_calls (a a1 a2 : Option Addr) (cap cap1 cap2 : Nat) (num : Int) (xs failed fresh : List Int) (w : World) (hm : xs.length ≤ 1099511627776) (hm1 : failed.length ≤ 1099511627776) (hm2 : fresh.length ≤ 1099511627776)
    (hx : IntsAt w a xs) (hf : IntsAt w a1 failed) (hn : IntsAt w a2 fresh) :
    Calls Try.prog 31 #[.agg #[.int .i64 num, .slice a xs.length cap], .slice a1 failed.length cap1, .slice a2 fresh.length cap2] w (Nexted w num xs failed fresh) := by
  have hB1 : Below w.heap.size w (w.alloc (.cells #[.int .i64 num, .slice a xs.length cap] 36)) := (Below.refl _ _).alloc (Nat.le_refl _) _
  have hB2 : Below w.heap.size w ((w.alloc (.cells #[.int .i64 num, .slice a xs.length cap] 36)).alloc (.cells #[.int .i64 0, .slice none 0 0] 36)) := hB1.alloc (by simp) _
  have hx2 := hx.below hB2
  cases hv : viewOk num xs with
  | false =>
    have F := Lib.hid (next_bad1 (failed := failed) (fresh := fresh) hv)
    have HV := Lib.hid hv
    clear hv
    go_enter Try.func31, Try.ntmps31
    go_wp2_with fail
    refine (viewValid_calls _ _ _ _ _ hm hx2).mono ?_
    rw [HV.out]
    rintro e w1 ⟨rfl, hb⟩
    have hR := (hb.block (w.heap.size + 1) (by simp)).trans (heap_second w _ _)
    have c0 : w1.cell? ⟨w.heap.size + 1, 0, none⟩ = some (.int .i64 0) := by rw [cell_of_heap hR]; rfl
    have c1 : w1.cell? ⟨w.heap.size + 1, 1, none⟩ = some (.slice none 0 0) := by rw [cell_of_heap hR]; rfl
    have f0 := frozen_of_heap (o := 0) hR
    have f1 := frozen_of_heap (o := 1) hR
    have FIN := Lib.hid (nexted_bad F.out (below_set (below_set (hB2.trans (hb.mono (by simp; omega))) (p := ⟨w.heap.size + 1, 0, none⟩) (by simp) (.int .i64 0)) (p := ⟨w.heap.size + 1, 1, none⟩) (by simp) (.slice none 0 0)))
    go_wp2_with fail
    exact bodyPost_ret (v := .tuple #[.agg #[.int .i64 0, .slice none 0 0], .bool false]) (by simp [results, Try.results31, go_sem, c0, c1]) rfl FIN.out
  | true =>
    by_cases h5 : fresh.length ≤ 5
    · have HV := Lib.hid hv
      have h5' : (fresh.length : Int) ≤ 5 := by omega
      obtain ⟨hids, hl1, hl5, hn0, hn1⟩ := viewOk_ids hv
      clear hv
      go_enter Try.func31, Try.ntmps31
      go_wp2_with fail
      refine (viewValid_calls _ _ _ _ _ hm hx2).mono ?_
      rw [HV.out]
      rintro e w1 ⟨rfl, hb⟩
      have s1 := hb.size
      simp at s1
      have hR1 := (hb.block (w.heap.size + 1) (by simp)).trans (heap_second w _ _)
      have hV1 := (hb.block w.heap.size (by simp; omega)).trans (heap_first w _ _)
      have hB3 : Below w.heap.size w w1 := hB2.trans (hb.mono (by simp; omega))
      have hG : BitsAt ((w1.alloc (.cells #[.int .u64 0, .int .u64 0] 77)).alloc (.cells #[.int .u64 0, .int .u64 0] 77)) w1.heap.size [] := ⟨0, 0, heap_first w1 _ _, by omega, by omega, fun n _ _ => by simp⟩
      have hF : BitsAt ((w1.alloc (.cells #[.int .u64 0, .int .u64 0] 77)).alloc (.cells #[.int .u64 0, .int .u64 0] 77)) (w1.heap.size + 1) [] := ⟨0, 0, heap_second w1 _ _, by omega, by omega, fun n _ _ => by simp⟩
      have hV3 := heap_two hV1 (.cells #[.int .u64 0, .int .u64 0] 77) (.cells #[.int .u64 0, .int .u64 0] 77)
      have hR3 := heap_two hR1 (.cells #[.int .u64 0, .int .u64 0] 77) (.cells #[.int .u64 0, .int .u64 0] 77)
      have hB4 : Below w.heap.size w ((w1.alloc (.cells #[.int .u64 0, .int .u64 0] 77)).alloc (.cells #[.int .u64 0, .int .u64 0] 77)) := (hB3.alloc (by omega) _).alloc (by simp; omega) _
      clear hR1 hV1 hB1 hB2 hB3 hx2 hb
      go_wp2_with fail
      generalize (w1.alloc (.cells #[.int .u64 0, .int .u64 0] 77)).alloc (.cells #[.int .u64 0, .int .u64 0] 77) = w2 at *
      generalize w1.heap.size = G at *
      go_loopw [11, 28] (fun _ i wr => ∃ k : Nat, k ≤ failed.length ∧ i = .int .i64 k ∧ BitsAt wr G (failed.take k) ∧ BitsAt wr (G + 1) [] ∧ wr.heap[w.heap.size]? = some (.cells #[.int .i64 num, .slice a xs.length cap] 36 (0, 0)) ∧ wr.heap[w.heap.size + 1]? = some (.cells #[.int .i64 0, .slice none 0 0] 36 (0, 0)) ∧ Below w.heap.size w wr) (fun _ i _ => failed.length - (intOf i).toNat)
      case atStart => exact ⟨0, Nat.zero_le _, rfl, hG, hF, hV3, hR3, hB4⟩
      case round =>
        obtain ⟨k, hk, rfl, hbG, hbF, hV, hR, hB⟩ := hrel
        clear hG hF hV3 hR3 hB4
        by_cases hlt : k < failed.length
        · rcases hf.below hB with rfl | ⟨b, off, rfl, hc⟩
          · simp at hlt
          have hcell := hc k hlt
          have hsn := Lib.hid (take_snoc' failed k hlt)
          clear hc
          go_wp2_with (go_at_call 51; refine (add_calls _ _ _ _ hbG).mono ?_; rintro e w3 ⟨rfl, hb1, hg1⟩)
          have q1 := hbF.kept hg1 (by simp)
          have q2 := heap_kept hV hg1 (by simp; omega)
          have q3 := heap_kept hR hg1 (by simp; omega)
          have q4 : Below w.heap.size w w3 := grown_below (grown_own (below_grown hB none) hg1 (by simp; omega))
          go_roundw
          case rel => exact ⟨k + 1, hlt, by go_num, by rw [hsn.out]; exact hb1, q1, q2, q3, q4⟩
          case measure => simp [intOf]; omega
        · have hbG' : BitsAt wr G failed := by rw [List.take_of_length_le (by omega)] at hbG; exact hbG
          have c0 : wr.cell? ⟨w.heap.size, 0, none⟩ = some (.int .i64 num) := by rw [cell_of_heap hV]; rfl
          have c1 : wr.cell? ⟨w.heap.size, 1, none⟩ = some (.slice a xs.length cap) := by rw [cell_of_heap hV]; rfl
          have g1 : 0 ≤ num + 1 := by omega
          have g2 : num + 1 ≤ 1000 := by omega
          have sB := lt_of_heap hV
          have sN : ¬ wr.heap.size = w.heap.size := by omega
          have lG : G + 1 < wr.heap.size := by obtain ⟨_, _, hh, _⟩ := hbF; exact lt_of_heap hh
          clear hbG
          go_wp2_with fail
          have hbox : ViewBox (wr.alloc (.cells #[.int .i64 (num + 1), .slice none 0 0] 36)) (w.heap.size + 2) wr.heap.size (num + 1) (.slice none 0 0) [] :=
            ⟨heap_alloc_new _ _, World.ownsRow_nil _ _ _ _, by simp [Value.ownBlock]⟩
          have hbG1 := hbG'.kept (World.grownBy_alloc wr (.cells #[.int .i64 (num + 1), .slice none 0 0] 36) none) (by simp)
          have hbF1 := hbF.kept (World.grownBy_alloc wr (.cells #[.int .i64 (num + 1), .slice none 0 0] 36) none) (by simp)
          have hR1 := heap_one hR (.cells #[.int .i64 (num + 1), .slice none 0 0] 36)
          have hB1 : Below w.heap.size w (wr.alloc (.cells #[.int .i64 (num + 1), .slice none 0 0] 36)) := hB.alloc (by omega) _
          have hs1 : (wr.alloc (.cells #[.int .i64 (num + 1), .slice none 0 0] 36)).heap.size = wr.heap.size + 1 := by simp
          clear hbG' hbF hV hR hB c0 c1
          generalize wr.alloc (.cells #[.int .i64 (num + 1), .slice none 0 0] 36) = w4 at *
          generalize wr.heap.size = O at *
          go_loopw [14, 42] (fun _ i wr => ∃ (k : Nat) (v : Value), k ≤ xs.length ∧ i = .int .i64 k ∧ BitsAt wr G failed ∧ BitsAt wr (G + 1) (xs.take k) ∧ ViewBox wr (w.heap.size + 2) O (num + 1) v (keptIds (xs.take k) failed) ∧ v.ownBlock ≠ some G ∧ v.ownBlock ≠ some (G + 1) ∧ wr.heap[w.heap.size + 1]? = some (.cells #[.int .i64 0, .slice none 0 0] 36 (0, 0)) ∧ Below w.heap.size w wr) (fun _ i _ => xs.length - (intOf i).toNat)
          case atStart => exact ⟨0, _, Nat.zero_le _, rfl, hbG1, hbF1, hbox, by simp [Value.ownBlock], by simp [Value.ownBlock], hR1, hB1⟩
          case round =>
            obtain ⟨k, v, hk, rfl, hbG, hbF, ⟨hb1, hb2, hb3⟩, hvG, hvF, hR, hB⟩ := hrel
            clear hbG1 hbF1 hbox hR1 hB1
            by_cases hlt : k < xs.length
            · rcases hx.below hB with rfl | ⟨b, off, rfl, hc⟩
              · simp at hlt
              have hcell := hc k hlt
              have hsn := Lib.hid (take_snoc' xs k hlt)
              have hrg := Lib.hid (idsOk_mem hids xs[k] (List.getElem_mem hlt))
              have hsn2 := kept_snoc (xs.take k) failed xs[k]
              rw [← hsn.out] at hsn2
              clear hc
              go_wp2_with fail
              refine (add_calls _ _ _ _ hbF).mono ?_
              rintro e w5 ⟨rfl, hb5, hg5⟩
              have q1 := hbG.kept hg5 (by simp)
              have q2 := heap_kept hR hg5 (by simp; omega)
              have q3 := heap_kept hb1 hg5 (by simp; omega)
              have q4 := hb2.kept hg5 (.inr hvF)
              have q5 : Below w.heap.size w w5 := grown_below (grown_own (below_grown hB none) hg5 (by simp; omega))
              clear hbG hbF hb1 hb2 hg5 hR hB
              by_cases hin : xs[k] ∈ failed
              · rw [if_pos hin] at hsn2
                have HS := Lib.hid hsn2
                have HI := Lib.hid hin
                clear hsn2 hin
                go_wp2_with fail
                refine (has_yes _ _ _ _ q1 hrg.out HI.out).mono ?_
                rintro e w6 ⟨rfl, rfl⟩
                go_wp2_with fail
                go_roundw
                case rel => exact ⟨k + 1, v, hlt, by go_num, q1, by rw [hsn.out]; exact hb5, by rw [HS.out]; exact ⟨q3, q4, hb3⟩, hvG, hvF, q2, q5⟩
                case measure => simp [intOf]; omega
              · rw [if_neg hin] at hsn2
                have HS := Lib.hid hsn2
                have HI := Lib.hid hin
                clear hsn2 hin
                have hkl : (keptIds (xs.take k) failed).length ≤ 5 := Nat.le_trans (kept_len _ _) (by simp; omega)
                have lO := lt_of_heap q3
                have c1 : w5.cell? ⟨O, 1, none⟩ = some v := by rw [cell_of_heap q3]; rfl
                have f1 := frozen_of_heap (o := 1) q3
                go_wp2_with fail
                refine (has_no _ _ _ _ q1 HI.out).mono ?_
                rintro e w6 ⟨rfl, rfl⟩
                go_wp2_with ((at_builtin; refine list_app elem_int (by rfl) _ _ (by rfl) (w.heap.size + 2) v (keptIds (xs.take k) failed).length ((keptIds (xs.take k) failed).map (Value.int .i64)) (by rfl) w5.heap.size 1 1 (by rfl) #[.int .i64 xs[k]] 3 (0, 0) (by rfl) (by simp [Value.oneCell']) (by omega) (by omega) (by omega) (heap_alloc_new w5 _) (q4.alloc _) (by simp; omega) ?_); intro gg cap3 w7 hown1 hgrow hat hlt3; have hh7 := heap_kept (o := .cells #[.int .i64 (num + 1), v] 36 (0, 0)) (V := O) (by exact heap_one q3 _) hgrow hb3; have hc7 := cell_of_heap (o := 1) hh7; have hf7 := frozen_of_heap (o := 1) hh7)
                have HB := box_app (f := 1) q3 q4 hb3 (World.grownBy_alloc w5 _ none) hown1 hgrow hat
                have hgg : gg ≠ G ∧ gg ≠ G + 1 := by
                  rcases hat with h | h
                  · exact ⟨fun e => hvG (by rw [h, e]), fun e => hvF (by rw [h, e])⟩
                  · have := hb5.lt; simp at h; omega
                clear hown1 hgrow hat hh7 hc7 hf7 c1 f1
                go_wp2_with fail
                go_roundw
                case rel => exact ⟨k + 1, _, hlt, by go_num, q1.carry fun o h => HB.kept _ _ h (by omega) hvG, by rw [hsn.out]; exact hb5.carry fun o h => HB.kept _ _ h (by omega) hvF, by rw [HS.out]; exact ⟨by simpa using HB.box, by simpa using HB.own, HB.ne⟩, by simp [Value.ownBlock]; exact hgg.1, by simp [Value.ownBlock]; exact hgg.2, HB.kept _ _ q2 (by omega) (fun e => by have := (q4.lt _ e).1; omega), grown_below (HB.grown _ none (below_grown q5 none) (by omega) (by omega))⟩
                case measure => simp [intOf]; omega
            · have hbF' : BitsAt wr (G + 1) xs := by rw [List.take_of_length_le (by omega)] at hbF; exact hbF
              rw [List.take_of_length_le (by omega)] at hb2
              clear hbF hbG
              have KL := kept_len xs failed
              go_wp2_with fail
              go_loopw [16, 60] (fun _ i wr => ∃ (k : Nat) (v : Value), k ≤ fresh.length ∧ i = .int .i64 k ∧ freshOk xs (fresh.take k) = true ∧ BitsAt wr (G + 1) xs ∧ ViewBox wr (w.heap.size + 2) O (num + 1) v (keptIds xs failed ++ fresh.take k) ∧ v.ownBlock ≠ some (G + 1) ∧ wr.heap[w.heap.size + 1]? = some (.cells #[.int .i64 0, .slice none 0 0] 36 (0, 0)) ∧ Below w.heap.size w wr) (fun _ i _ => fresh.length - (intOf i).toNat)
              case atStart => exact ⟨0, v, Nat.zero_le _, rfl, rfl, hbF', by simpa using ⟨hb1, hb2, hb3⟩, hvF, hR, hB⟩
              case round =>
                clear hbF' hb1 hb2 hb3 hvG hvF hR hB
                obtain ⟨k, v, hk, rfl, hfo, hbF, ⟨hb1, hb2, hb3⟩, hvF, hR, hB⟩ := hrel
                by_cases hlt : k < fresh.length
                · rcases hn.below hB with rfl | ⟨b, off, rfl, hc⟩
                  · simp at hlt
                  have hcell := hc k hlt
                  have hsn := Lib.hid (take_snoc' fresh k hlt)
                  have hfs := freshOk_snoc xs (fresh.take k) fresh[k]
                  rw [← hsn.out, hfo, Bool.true_and] at hfs
                  clear hc hfo
                  by_cases hin : fresh[k] ∈ xs
                  · have F := Lib.hid (next_bad2 (num := num) (failed := failed) (freshOk_take (k := k + 1) (by rw [hfs, decide_eq_true hin]; rfl)))
                    have hrg := Lib.hid (idsOk_mem hids fresh[k] hin)
                    have HI := Lib.hid hin
                    clear hfs hin
                    go_wp2_with fail
                    refine (has_yes _ _ _ _ hbF hrg.out HI.out).mono ?_
                    rintro e w6 ⟨rfl, rfl⟩
                    have c0 : wr.cell? ⟨w.heap.size + 1, 0, none⟩ = some (.int .i64 0) := by rw [cell_of_heap hR]; rfl
                    have c1 : wr.cell? ⟨w.heap.size + 1, 1, none⟩ = some (.slice none 0 0) := by rw [cell_of_heap hR]; rfl
                    have f0 := frozen_of_heap (o := 0) hR
                    have f1 := frozen_of_heap (o := 1) hR
                    have FIN := Lib.hid (nexted_bad F.out (below_set (below_set hB (p := ⟨w.heap.size + 1, 0, none⟩) (by simp) (.int .i64 0)) (p := ⟨w.heap.size + 1, 1, none⟩) (by simp) (.slice none 0 0)))
                    go_wp2_with fail
                    exact bodyPost_ret (v := .tuple #[.agg #[.int .i64 0, .slice none 0 0], .bool false]) (by simp [results, Try.results31, go_sem, c0, c1]) rfl FIN.out
                  · have HFS := Lib.hid hfs
                    have HI := Lib.hid hin
                    clear hfs hin
                    obtain ⟨ys, hys⟩ : ∃ ys, ys = keptIds xs failed ++ fresh.take k := ⟨_, rfl⟩
                    rw [← hys] at hb2
                    have hkl : ys.length ≤ 10 := by rw [hys]; simp; omega
                    have HYS := Lib.hid hys
                    clear hys
                    have lO := lt_of_heap hb1
                    have c1 : wr.cell? ⟨O, 1, none⟩ = some v := by rw [cell_of_heap hb1]; rfl
                    have f1 := frozen_of_heap (o := 1) hb1
                    go_wp2_with fail
                    refine (has_no _ _ _ _ hbF HI.out).mono ?_
                    rintro e w6 ⟨rfl, rfl⟩
                    go_wp2_with ((at_builtin; refine list_app elem_int (by rfl) _ _ (by rfl) (w.heap.size + 2) v ys.length (ys.map (Value.int .i64)) (by rfl) wr.heap.size 1 1 (by rfl) #[.int .i64 fresh[k]] 3 (0, 0) (by rfl) (by simp [Value.oneCell']) (by omega) (by omega) (by omega) (heap_alloc_new wr _) (hb2.alloc _) (by simp; omega) ?_); intro gg cap3 w7 hown1 hgrow hat hlt3; have hh7 := heap_kept (o := .cells #[.int .i64 (num + 1), v] 36 (0, 0)) (V := O) (by exact heap_one hb1 _) hgrow hb3; have hc7 := cell_of_heap (o := 1) hh7; have hf7 := frozen_of_heap (o := 1) hh7)
                    have HB := box_app (f := 1) hb1 hb2 hb3 (World.grownBy_alloc wr _ none) hown1 hgrow hat
                    have hgg : gg ≠ G + 1 := by
                      rcases hat with h | h
                      · exact fun e => hvF (by rw [h, e])
                      · have := hbF.lt; simp at h; omega
                    clear hown1 hgrow hat hh7 hc7 hf7 c1 f1
                    go_wp2_with fail
                    go_roundw
                    case rel => exact ⟨k + 1, _, hlt, by go_num, by rw [HFS.out, decide_eq_false HI.out]; rfl, hbF.carry fun o h => HB.kept _ _ h (by omega) hvF, by rw [hsn.out, ← List.append_assoc, ← HYS.out]; exact ⟨by simpa using HB.box, by simpa using HB.own, HB.ne⟩, by simp [Value.ownBlock]; exact hgg, HB.kept _ _ hR (by omega) (fun e => by have := (hb2.lt _ e).1; omega), grown_below (HB.grown _ none (below_grown hB none) (by omega) (by omega))⟩
                    case measure => simp [intOf]; omega
                · rw [List.take_of_length_le (by omega)] at hfo hb2
                  have HFO := Lib.hid hfo
                  clear hfo hbF
                  obtain ⟨ys, hys⟩ : ∃ ys, ys = keptIds xs failed ++ fresh := ⟨_, rfl⟩
                  rw [← hys] at hb2
                  have hL : ys.length ≤ 1099511627776 := by rw [hys]; simp; omega
                  obtain ⟨a', cap', rfl, hia⟩ := own_form hb2
                  have HYS := Lib.hid hys
                  clear hys
                  have c0 : wr.cell? ⟨O, 0, none⟩ = some (.int .i64 (num + 1)) := by rw [cell_of_heap hb1]; rfl
                  have c1 : wr.cell? ⟨O, 1, none⟩ = some (.slice a' ys.length cap') := by rw [cell_of_heap hb1]; rfl
                  have lO := lt_of_heap hb1
                  go_wp2_with fail
                  refine (viewValid_calls _ _ _ _ _ hL hia).mono ?_
                  rintro e w8 ⟨rfl, hb8⟩
                  have hB8 : Below w.heap.size w w8 := hB.trans (hb8.mono (by omega))
                  have hR8 := (hb8.block _ (by omega)).trans hR
                  have hO8 := (hb8.block _ (by omega)).trans hb1
                  have hw8 := hb2.kept (below_grown hb8 none) (by cases a' <;> simp [Value.ownBlock])
                  have r0 : w8.cell? ⟨w.heap.size + 1, 0, none⟩ = some (.int .i64 0) := by rw [cell_of_heap hR8]; rfl
                  have r1 : w8.cell? ⟨w.heap.size + 1, 1, none⟩ = some (.slice none 0 0) := by rw [cell_of_heap hR8]; rfl
                  have f0 := frozen_of_heap (o := 0) hR8
                  have f1 := frozen_of_heap (o := 1) hR8
                  have c0' : w8.cell? ⟨O, 0, none⟩ = some (.int .i64 (num + 1)) := by rw [cell_of_heap hO8]; rfl
                  have c1' : w8.cell? ⟨O, 1, none⟩ = some (.slice a' ys.length cap') := by rw [cell_of_heap hO8]; rfl
                  clear hb1 hb2 hb3 hR hB hia c0 c1 hb8 hO8 hvF
                  cases hv2 : viewOk (num + 1) ys with
                  | false =>
                    have FIN := Lib.hid (nexted_bad (next_bad3 (xs := xs) (failed := failed) (fresh := fresh) (by rw [← HYS.out]; exact hv2)) (below_set (below_set hB8 (p := ⟨w.heap.size + 1, 0, none⟩) (by simp) (.int .i64 0)) (p := ⟨w.heap.size + 1, 1, none⟩) (by simp) (.slice none 0 0)))
                    go_wp2_with fail
                    exact bodyPost_ret (v := .tuple #[.agg #[.int .i64 0, .slice none 0 0], .bool false]) (by simp [results, Try.results31, go_sem, r0, r1]) rfl FIN.out
                  | true =>
                    have FIN := Lib.hid (nexted_good (next_good (fresh := fresh) HV.out HFO.out (by rw [← HYS.out]; exact hv2)) HYS.out hw8 hB8)
                    go_wp2_with fail
                    exact bodyPost_ret (v := .tuple #[.agg #[.int .i64 (num + 1), .slice a' ys.length cap'], .bool true]) (by simp [results, Try.results31, go_sem, r0, r1]) rfl FIN.out
    · have F := Lib.hid (next_bad4 (num := num) (xs := xs) (failed := failed) h5)
      have h5' : (5 : Int) < (fresh.length : Int) := by omega
      have HV := Lib.hid hv
      clear hv h5
      go_enter Try.func31, Try.ntmps31
      go_wp2_with fail
      refine (viewValid_calls _ _ _ _ _ hm hx2).mono ?_
      rw [HV.out]
      rintro e w1 ⟨rfl, hb⟩
      have hR := (hb.block (w.heap.size + 1) (by simp)).trans (heap_second w _ _)
      have c0 : w1.cell? ⟨w.heap.size + 1, 0, none⟩ = some (.int .i64 0) := by rw [cell_of_heap hR]; rfl
      have c1 : w1.cell? ⟨w.heap.size + 1, 1, none⟩ = some (.slice none 0 0) := by rw [cell_of_heap hR]; rfl
      have f0 := frozen_of_heap (o := 0) hR
      have f1 := frozen_of_heap (o := 1) hR
      have FIN := Lib.hid (nexted_bad F.out (below_set (below_set (hB2.trans (hb.mono (by simp; omega))) (p := ⟨w.heap.size + 1, 0, none⟩) (by simp) (.int .i64 0)) (p := ⟨w.heap.size + 1, 1, none⟩) (by simp) (.slice none 0 0)))
      go_wp2_with fail
      exact bodyPost_ret (v := .tuple #[.agg #[.int .i64 0, .slice none 0 0], .bool false]) (by simp [results, Try.results31, go_sem, c0, c1]) rfl FIN.out

end Go.Proofs.Ytgpnbcdboofikaa
