
/-
  The walks of the functions that draw a log. No statement is proved here.
-/
import Derived.Test.YtebklbncfcdkmaaDoorU1
namespace Go.Proofs.YtebklbncfcdkmaaDoor
open Go.RowKit

def updsIn (us : List Upd) : Prop := ∀ u ∈ us, updIn u
theorem updsIn_snoc {us : List Upd} {u : Upd} (h : updsIn us) (hu : updIn u) : updsIn (us ++ [u]) := fun x hx => by
  rcases List.mem_append.1 hx with h' | h'
  · exact h x h'
  · simp at h'; subst h'; exact hu

set_option maxHeartbeats 2000000 in
theorem l91Log_st {w0 w : World} {rs : List Res} (b m : Nat) (h : St w0 w (rd w0 b m :: rs)) (hm : m ≤ 800000) :
    Calls Tryd.prog 47 #[.pointer (some ⟨b, 0, none⟩)] w fun e w' => ∃ (v : Value) (us : List Upd), e = .returned v ∧ us.length ≤ 13 ∧ updsIn us ∧ St w0 w' (row v 25 2 us.length (ucells us) :: rd w0 b (m + 100) :: rs) := by
  have s0 := (h.alloc (.cells #[] 25)).madeRow 2 0 rfl (by simp [maxLen]) 0 (Nat.le_refl _)
  simp only [List.take_nil] at s0
  go_enter Tryd.func47, Tryd.ntmps47
  go_wp2_with fail
  refine (pick_st b m 7 s0.at1 (by omega) (by omega)).mono ?_
  rintro e w1 ⟨n, rfl, n0, n1, s1⟩
  have n2 := n1 (by omega)
  go_wp2_with fail
  refine (pick_st b (m + 1) 16 s1 (by omega) (by omega)).mono ?_
  rintro e w2 ⟨q, rfl, q0, q1, s2⟩
  clear s0 s1 n1 q1
  by_cases hq : q = 0
  all_goals
    first
      | (subst hq
         go_wp2_with fail
         refine (pick_st b (m + 2) 3 s2 (by omega) (by omega)).mono ?_
         rintro e w3 ⟨p, rfl, p0, p1, s3'⟩
         have p2 := p1 (by omega)
         have s3 := s3'
         obtain ⟨N, hN⟩ := Int.eq_ofNat_of_zero_le (show 0 ≤ 11 + p by omega)
         have hN13 : N ≤ 13 := by omega
         clear s2 s3' p1
         go_wp2_with fail)
      | (have hq' : (q == 0) = false := by simpa using hq
         have s3 := s2.rdMono (show m + 1 + 1 ≤ m + 2 + 1 by omega)
         obtain ⟨N, hN⟩ := Int.eq_ofNat_of_zero_le n0
         have hN13 : N ≤ 13 := by omega
         clear s2 hq
         go_wp2_with fail)
    clear hN n2 n0
    go_loopw [3, 5] (fun v i wr => ∃ (k : Nat) (us : List Upd), k ≤ N ∧ us.length = k ∧ i = .int .i64 k ∧ updsIn us ∧ St w0 wr (row v 25 2 us.length (ucells us) :: rd w0 b (m + 3 + 4 * k) :: rs)) (fun _ i _ => N - (intOf i).toNat)
    case atStart => exact ⟨0, [], Nat.zero_le _, rfl, rfl, (fun _ h => by cases h), s3.at1⟩
    case round =>
      clear s3
      obtain ⟨k, us, hk, hul, rfl, hui, s4⟩ := hrel
      have HUL := Lib.hid hul
      have HUI := Lib.hid hui
      have hul1 : us.length ≤ 13 := by omega
      have hul2 : us.length ≤ k := by omega
      clear hul hui
      by_cases hlt : k < N
      · go_wp2_with fail
        refine (l91Update_st b (m + 3 + 4 * k) s4.at1 (by omega)).mono ?_
        rintro e w5 ⟨p, v, rfl, hpv, s5⟩
        have s5 := s5.at1
        have o5 := s5.own
        have lR := s5.size
        have HPV := Lib.hid hpv
        clear s4 hpv
        go_wp2_with ((at_builtin; refine list_app elem_upd (by rfl) _ _ (by rfl) w0.heap.size u3 us.length (ucells us) (by rfl) w5.heap.size 1 1 (by rfl) #[.int .i64 p, .int .i64 v] 25 (0, 0) (by rfl) (by simp [Value.oneCell']) (by omega) (by omega) (by omega) (heap_alloc_new w5 _) (o5.alloc _) (by simp; omega) ?_); intro gg cap3 w7 hown hgrow hat hl)
        have s7 := s5.app (World.grownBy_alloc w5 _ none) hown hgrow hat hl
        clear hown hgrow hat hl o5 s5
        go_wp2_with fail
        go_roundw
        case rel => exact ⟨k + 1, us ++ [(p, v)], hlt, by simp [HUL.out], by go_num, updsIn_snoc HUI.out HPV.out, by rw [show m + 3 + 4 * (k + 1) = m + 3 + 4 * k + 4 by omega, ucells_append]; simpa [ucells] using s7⟩
        case measure => simp [intOf]; omega
      · go_wp2_with fail
        go_ret
        exact ⟨u3, us, rfl, hul1, HUI.out, (s4.at1.rdMono (by omega)).at1⟩

end Go.Proofs.YtebklbncfcdkmaaDoor
