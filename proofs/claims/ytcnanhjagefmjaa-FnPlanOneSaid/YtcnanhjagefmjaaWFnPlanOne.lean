
/-
  The walk of FnPlanOne.
-/
import Derived.Test.YtcnanhjagefmjaaX20
import Derived.Test.YtcnanhjagefmjaaSl
import Derived.BigFrame
import Derived.Test.YtcnanhjagefmjaaX19
import Derived.Test.YtcnanhjagefmjaaX11
namespace Go.Proofs.Ytcnanhjagefmjaa.fnPlanOne
open Go.RowKit Go.Proofs.Ytcnanhjagefmjaa

theorem ints_take {w : World} {a : Option Addr} {xs : List Int} (k : Nat) (h : IntsAt w a xs) : IntsAt w a (xs.take k) := by
  rcases h with rfl | ⟨b, off, rfl, hc⟩
  · exact .inl (by simp)
  · refine .inr ⟨b, off, rfl, fun j hj => ?_⟩
    rw [List.length_take] at hj
    have := hc j (by omega)
    rw [this]
    simp [List.getD, show j < k by omega]
theorem ints_drop {w : World} {a : Option Addr} {xs : List Int} {cap : Nat} (k : Nat) (hc : xs.length ≤ cap) (h : IntsAt w a xs) : IntsAt w (cutAt a cap k 1) (xs.drop k) := by
  unfold cutAt
  by_cases h0 : cap = k
  · rw [if_pos h0]
    exact .inl (List.drop_eq_nil_of_le (by omega))
  · rw [if_neg h0]
    rcases h with rfl | ⟨b, off, rfl, hcell⟩
    · exact .inl (by simp)
    · refine .inr ⟨b, off + k, by simp [Addr.add], fun j hj => ?_⟩
      rw [List.length_drop] at hj
      have := hcell (k + j) (by omega)
      rw [Nat.add_assoc, this]
      simp [List.getD]
theorem info_int1 : (Try.prog.info? 3).map (·.size) = some 1 := by kernel_rfl

set_option maxRecDepth 100000 in
set_option maxHeartbeats 4000000 in
theorem walk (a0 : Option Addr) (len0 cap0 : Nat) (z0 : List Int) (b0 : Option Addr) (len1 cap1 : Nat) (z1 : List Int) (w : World) (w0 : IsRow .u8 w a0 len0 cap0 z0) (w1 : IsRow .u8 w b0 len1 cap1 z1) :
    Calls Try.prog 10 #[.slice a0 len0 cap0, .slice b0 len1 cap1] w fun e w' => e = .returned (.bool true) ∧ Below w.heap.size w w' := by
  have hle := w0.le
  have hby := w0.bytes
  have hle1 := w1.le
  clear w0 w1
  have mle : maxLen ≤ 9223372036854775807 := by unfold maxLen; omega
  by_cases hbig : len0 ≤ 1048576 ∧ len1 ≤ 1048576
  · obtain ⟨hbig, hbig1⟩ := hbig
    go_enter Try.func10, Try.ntmps10
    go_wp2_with fail
    with_reducible refine (drawPlanOf_calls _ _ _ _ hle.1 hle.2 hby).mono ?_
    rintro e w1 ⟨a1, a2, a3, c1, c2, c3, ps, ss, ds, m, rfl, hp6, hs8, hd8, hm1, hm3, s1⟩
    go_wp2_with fail
    with_reducible refine (planOf_calls a1 c1 ps a2 c2 ss a3 c3 ds m w1 (by omega) (by omega) (by omega) (own_intsR s1.own) (own_intsR s1.at1.own) (own_intsR s1.at2.own)).mono ?_
    rintro e w2 ⟨b2, e2, rfl, o2, hb2⟩
    have s2 := (s1.fresh hb2 o2 (Nat.le_refl _)).to3
    clear s1 o2 hb2
    go_wp2_with fail
    with_reducible refine (specPlanOf_calls a1 c1 ps a2 c2 ss a3 c3 ds m w2 (by omega) (by omega) (by omega) (own_intsR s2.own) (own_intsR s2.at1.own) (own_intsR s2.at2.own)).mono ?_
    rintro e w3 ⟨b3, e3, rfl, o3, hb3⟩
    have s3 := s2.fresh hb3 o3 (Nat.le_refl _)
    have hlr : (planR ps ss ds m).length ≤ 48 := by
      unfold planR
      split
      · have := planL_len ss ds m ps
        omega
      · simp
    have I2 := own_cellsR s3.at4.own
    have I3 := own_cellsR s3.own
    have J1 := own_intsR s3.at1.own
    have J2 := own_intsR s3.at2.own
    have J3 := own_intsR s3.at3.own
    have SA := Lib.hid (fun W (hb : Below w3.heap.size w3 W) => sameMoves_eq b2 b3 e2 e3 (planR ps ss ds m) W (by omega) (I2.below hb) (I3.below hb))
    have B3 := s3.below
    have hcap := own_cap s3.at1.own
    clear s2 s3 o3 hb3 I3
    cases hok : planOk ps ss ds m with
    | false =>
      generalize (planR ps ss ds m).length = R at *
      go_wp2_with fail
      with_reducible refine (SA.out _ (Below.refl _ _)).mono ?_
      rintro e w4 ⟨rfl, hb4⟩
      go_wp2_with fail
      with_reducible refine (SA.out _ hb4).mono ?_
      rintro e w5 ⟨rfl, hb5⟩
      have FIN2 := Lib.hid ((B3.trans (hb4.mono B3.size)).trans (hb5.mono (Nat.le_trans B3.size hb4.size)))
      clear hb4 hb5
      go_wp2_with fail
      go_ret
      exact ⟨rfl, FIN2.out⟩
    | true =>
      have PR : planR ps ss ds m = planL ps ss ds m := by rw [planR, hok]; rfl
      rw [PR] at SA hlr I2
      rw [PR]
      clear PR
      obtain ⟨k, e1, e2, hk⟩ : ∃ k : Nat, (len1 : Int) % ((ps.length : Int) + 1) = k ∧ (len1 : Int).tmod ((ps.length : Int) + 1) = k ∧ k ≤ ps.length := ⟨len1 % (ps.length + 1), by rw [show ((ps.length : Int) + 1) = ((ps.length + 1 : Nat) : Int) by omega]; omega, by rw [Int.tmod_eq_emod_of_nonneg (by omega), show ((ps.length : Int) + 1) = ((ps.length + 1 : Nat) : Int) by omega]; omega, Nat.le_of_lt_succ (Nat.mod_lt _ (by omega))⟩
      obtain ⟨ok1, ok2, happ⟩ := plan_cut k hok
      have hpz : (ps.length : Int) + 1 ≠ 0 := by omega
      have i1 : (0 : Int) ≤ (k : Int) := by omega
      have i2 : (k : Int) ≤ (ps.length : Int) := by omega
      have i3 : (k : Int) ≤ (c1 : Int) := by omega
      have hsl : ∀ w, (Instr.slice 22 (.slice a1 ps.length c1) (some (.int .i64 (k : Int))) none none).run Try.prog w = .ok (.slice (cutAt a1 c1 k 1) (ps.length - k) (c1 - k)) w :=
        run_from (P := Try.prog) 22 3 1 a1 ps.length c1 k Try.underlying22 info_int1 hk
      have P1 := Lib.hid (fun W (hb : Below w3.heap.size w3 W) => planOf_calls a1 c1 (ps.take k) a2 c2 ss a3 c3 ds m W (by simp; omega) (by omega) (by omega) (ints_take k (J1.below hb)) (J2.below hb) (J3.below hb))
      have P2 := Lib.hid (fun W (hb : Below w3.heap.size w3 W) => planOf_calls (cutAt a1 c1 k 1) (c1 - k) (ps.drop k) a2 c2 ss a3 c3 ds m W (by simp; omega) (by omega) (by omega) (ints_drop k (by omega) (J1.below hb)) (J2.below hb) (J3.below hb))
      have hX := planL_len ss ds m (ps.take k)
      have hY := planL_len ss ds m (ps.drop k)
      rw [List.length_take] at hX
      rw [List.length_drop] at hY
      have ht : (ps.take k).length = k := by simp; omega
      have hd : (ps.drop k).length = ps.length - k := by simp
      unfold GaveMoves planR at P1 P2
      rw [ok1, if_pos rfl, ht] at P1
      rw [ok2, if_pos rfl, hd] at P2
      have HAPP := Lib.hid happ
      generalize planL ps ss ds m = R at *
      generalize planL (ps.take k) ss ds m = X at *
      generalize planL (ps.drop k) ss ds m = Y at *
      clear happ ht hd ok1 ok2 J1 J2 J3
      go_wp2_with fail
      with_reducible refine (SA.out _ (Below.refl _ _)).mono ?_
      rintro e w4 ⟨rfl, hb4⟩
      clear SA
      go_wp2_with fail
      with_reducible refine (P1.out _ hb4).mono ?_
      rintro e w5 ⟨xa, xc, rfl, o5, hb5⟩
      have s5 := (St.start w4).fresh hb5 o5 (Nat.le_refl _)
      clear P1 o5 hb5
      have hb6 := hb4.trans (s5.below.mono hb4.size)
      go_wp2_with fail
      with_reducible refine (P2.out _ hb6).mono ?_
      rintro e w6 ⟨ya, yc, rfl, o6, hb7⟩
      have s6 := ((s5.fresh hb7 o6 (Nat.le_refl _)).alloc (.cells #[] 46)).madeRow 3 0 rfl (by simp [maxLen]) 0 (Nat.le_refl _)
      simp only [List.take_nil] at s6
      clear s5 P2 o6 hb7 hb6 hsl
      have o7 := s6.own
      have l7 := s6.size
      have cX := own_cellsR s6.at2.own
      go_wp2_with (first
        | (at_builtin; refine BigFrame.wpList_want (by rfl) ?_; intro K hK; refine wp_appV elem_move _ _ (by rfl) w4.heap.size (.slice (some ⟨w6.heap.size, 0, none⟩) 0 0) 0 [] (by rfl) xa X.length xc (by rfl) (mcells X) (mcells_len X) (mcells_one X) (by omega) (by omega) cX o7 l7 ?_; intro v7 w7 hown hgrow hat hl; have s7 := s6.appV (grown_refl _ _) hown hgrow hat hl; simp only [Nat.zero_add, List.nil_append] at s7; obtain ⟨va, vc, rfl, _⟩ := own_cells s7.own; have o8 := s7.own; have l8 := s7.size; have cY := own_cellsR s7.at1.own; refine hK _ _ ?_)
        | (at_builtin; refine BigFrame.wpList_want (by rfl) ?_; intro K2 hK2; refine wp_appV elem_move _ _ (by rfl) w4.heap.size (.slice va X.length vc) X.length (mcells X) (by rfl) ya Y.length yc (by rfl) (mcells Y) (mcells_len Y) (mcells_one Y) (by omega) (by omega) cY o8 l8 ?_; intro v8 w8 hown8 hgrow8 hat8 hl8; have s8 := s7.appV (grown_refl _ _) hown8 hgrow8 hat8 hl8; rw [← mcells_append, ← List.length_append, HAPP.out] at s8; obtain ⟨za, zc, rfl, _⟩ := own_cells s8.own; refine hK2 _ _ ?_))
      have hb8 := hb4.trans (s8.below.mono hb4.size)
      refine (sameMoves_eq za b2 zc _ R w8 (by omega) (own_cellsR s8.own) (I2.below hb8)).mono ?_
      rintro e w9 ⟨rfl, hb9⟩
      have FIN := Lib.hid ((B3.trans (hb8.mono B3.size)).trans (hb9.mono (Nat.le_trans B3.size hb8.size)))
      clear hown hgrow hat hl hown8 hgrow8 hat8 hl8 s6 s7 s8 hb9 hb8 hb4
      go_wp2_with fail
      go_ret
      exact ⟨rfl, FIN.out⟩
  · by_cases h0 : 1048576 < len0
    · go_enter Try.func10, Try.ntmps10
      go_wp2_with fail
      go_ret
      exact ⟨rfl, Below.refl _ _⟩
    · have h1 : 1048576 < len1 := by omega
      go_enter Try.func10, Try.ntmps10
      go_wp2_with fail
      go_ret
      exact ⟨rfl, Below.refl _ _⟩

end Go.Proofs.Ytcnanhjagefmjaa.fnPlanOne
