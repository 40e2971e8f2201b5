
/-
  The walks of the functions that draw a text and an update for a law. No statement is proved here.
-/
import Derived.Test.YtebklbncfcdkmaaDoorY8
import Derived.Test.YtebklbncfcdkmaaDoorYE
namespace Go.Proofs.YtebklbncfcdkmaaDoor
open Go.RowKit

/-- One of these texts was picked. -/
def PickedText (w0 : World) (b m : Nat) (l : Value) (ps : List ByteArray) (rs : List Res) (e : Ending) (w' : World) : Prop :=
  ∃ p ∈ ps, e = .returned (.string p) ∧ St w0 w' (rd w0 b m :: row l 9 1 ps.length (ps.map Value.string) :: rs)
set_option maxHeartbeats 1000000 in
theorem of_st {w0 w : World} {rs : List Res} (b m : Nat) (a : Option Addr) (cap : Nat) (ps : List ByteArray) (h : St w0 w (rd w0 b m :: row (.slice a ps.length cap) 9 1 ps.length (ps.map Value.string) :: rs)) (hm : m ≤ 900000) (h1 : 1 ≤ ps.length) (h2 : ps.length ≤ 1000) :
    Calls Tryd.prog 62 #[.pointer (some ⟨b, 0, none⟩), .slice a ps.length cap] w (PickedText w0 b (m + 1) (.slice a ps.length cap) ps rs) := by
  go_enter Tryd.func62, Tryd.ntmps62
  go_wp2_with fail
  refine (pick_st b m ps.length h (by omega) (by omega)).mono ?_
  rintro e w1 ⟨k, rfl, k0, k1, s1⟩
  have k2 := k1 (by omega)
  obtain ⟨k, rfl⟩ := Int.eq_ofNat_of_zero_le k0
  have hk : k < ps.length := by omega
  obtain ⟨g, off, rfl, c0⟩ := (show StrsAt w1 a ps from own_cellsR s1.at1.own).cells k hk
  have HM := Lib.hid (List.getElem_mem hk)
  have F := Lib.hid s1
  generalize ps[k] = p at *
  clear s1 h k1
  go_wp2_with fail
  exact bodyPost_ret (v := .string p) (by simp [results, Tryd.results62, go_sem]) rfl ⟨p, HM.out, rfl, F.out⟩

/-- The texts that a law draws besides those of logs. -/
def oddTexts : List ByteArray := [⟨#[]⟩, ⟨#[49, 61]⟩, ⟨#[61, 53]⟩, ⟨#[49, 61, 48, 53]⟩, ⟨#[48, 49, 61, 53]⟩, ⟨#[49, 61, 53, 44]⟩, ⟨#[44]⟩, ⟨#[53, 61, 49]⟩, ⟨#[49, 61, 49, 48, 48]⟩, ⟨#[49, 61, 53, 32, 50, 61, 54]⟩, ⟨#[45, 45]⟩]
/-- A text that was drawn. -/
def DrawnText (w : World) (e : Ending) (w' : World) : Prop := ∃ S : ByteArray, e = .returned (.string S) ∧ S.size ≤ 2000 ∧ Below w.heap.size w w'
theorem odd_size : ∀ p ∈ oddTexts, p.size ≤ 2000 := by
  intro p hp
  have : (oddTexts.all fun p => decide (p.size ≤ 2000)) = true := by decide
  simpa using List.all_eq_true.1 this p hp

set_option maxRecDepth 100000 in
set_option maxHeartbeats 2000000 in
theorem drawLogFrom_calls (a : Option Addr) (n cap : Nat) (w : World) (hc : n ≤ cap) (hm : cap ≤ maxLen) (hb : BytesAt w a n) :
    Calls Tryd.prog 36 #[.slice a n cap] w (DrawnText w) := by
  go_enter Tryd.func36, Tryd.ntmps36
  go_wp2_with fail
  refine (l6Open_st a n cap (St.start w) hc hm hb).mono ?_
  rintro e w1 ⟨b, rfl, s1⟩
  go_wp2_with fail
  refine (l91Log_st b 0 s1 (by omega)).mono ?_
  rintro e w2 ⟨v, us, rfl, h13, _, s2⟩
  obtain ⟨a', cap', rfl, hx⟩ := own_cells s2.own
  have s3 := s2.drop
  have SP := specLogText_calls a' cap' us w2 (by omega) hx
  have hlen := logText_length us
  clear s1 s2 hx h13
  by_cases hne : logText us = []
  · rw [hne] at SP
    have HSP := Lib.hid SP
    clear SP hne hlen
    go_wp2_with fail
    refine HSP.out.mono ?_
    rintro e w4 ⟨rfl, hb4⟩
    have s4 := (((s3.call hb4).alloc (.cells #[.string ⟨#[]⟩, .string ⟨#[49, 61]⟩, .string ⟨#[61, 53]⟩, .string ⟨#[49, 61, 48, 53]⟩, .string ⟨#[48, 49, 61, 53]⟩, .string ⟨#[49, 61, 53, 44]⟩, .string ⟨#[44]⟩, .string ⟨#[53, 61, 49]⟩, .string ⟨#[49, 61, 49, 48, 48]⟩, .string ⟨#[49, 61, 53, 32, 50, 61, 54]⟩, .string ⟨#[45, 45]⟩] 9)).madeRow 1 11 rfl (by simp [maxLen]) 11 (Nat.le_refl _)).at1
    have OF := Lib.hid (of_st b 100 (some ⟨w4.heap.size, 0, none⟩) 11 oddTexts s4 (by omega) (by decide) (by decide))
    clear s3 hb4 s4
    go_wp2_with fail
    refine OF.out.mono ?_
    rintro e w5 ⟨p, hp, rfl, s5⟩
    have F := Lib.hid (And.intro (odd_size p hp) s5.below)
    clear s5 hp
    go_wp2_with fail
    exact bodyPost_ret (v := .string p) (by simp [results, Tryd.results36, go_sem]) rfl ⟨p, rfl, F.out.1, F.out.2⟩
  · obtain ⟨TT, hTT⟩ : ∃ TT : ByteArray, (⟨(logText us).toArray⟩ : ByteArray) = TT := ⟨_, rfl⟩
    have hE : TT.toList.isEmpty = false := by
      rw [Lib.toList_data, ← hTT]
      cases hl : logText us with
      | nil => exact absurd hl hne
      | cons => rfl
    have hz : TT.size ≤ 2000 := by rw [← hTT]; simp [ByteArray.size]; omega
    rw [hTT] at SP
    have HSP := Lib.hid SP
    have HZ := Lib.hid hz
    clear SP hne hTT hlen hz
    go_wp2_with fail
    refine HSP.out.mono ?_
    rintro e w4 ⟨rfl, hb4⟩
    have s4 := s3.call hb4
    clear s3 hb4
    go_wp2_with fail
    refine (pick_st b _ 5 s4 (by omega) (by omega)).mono ?_
    rintro e w5 ⟨k, rfl, k0, k1, s5⟩
    clear s4 k1 k0
    by_cases hk : k = 0
    · subst hk
      have s6 := ((s5.alloc (.cells #[.string ⟨#[]⟩, .string ⟨#[49, 61]⟩, .string ⟨#[61, 53]⟩, .string ⟨#[49, 61, 48, 53]⟩, .string ⟨#[48, 49, 61, 53]⟩, .string ⟨#[49, 61, 53, 44]⟩, .string ⟨#[44]⟩, .string ⟨#[53, 61, 49]⟩, .string ⟨#[49, 61, 49, 48, 48]⟩, .string ⟨#[49, 61, 53, 32, 50, 61, 54]⟩, .string ⟨#[45, 45]⟩] 9)).madeRow 1 11 rfl (by simp [maxLen]) 11 (Nat.le_refl _)).at1
      have OF := Lib.hid (of_st b _ (some ⟨w5.heap.size, 0, none⟩) 11 oddTexts s6 (by omega) (by decide) (by decide))
      clear s5 s6
      go_wp2_with fail
      refine OF.out.mono ?_
      rintro e w7 ⟨p, hp, rfl, s7⟩
      have F := Lib.hid (And.intro (odd_size p hp) s7.below)
      clear s7 hp
      go_wp2_with fail
      exact bodyPost_ret (v := .string p) (by simp [results, Tryd.results36, go_sem]) rfl ⟨p, rfl, F.out.1, F.out.2⟩
    · have hk' : (k == 0) = false := by simpa using hk
      have F := Lib.hid s5.below
      clear s5 hk
      go_wp2_with fail
      exact bodyPost_ret (v := .string TT) (by simp [results, Tryd.results36, go_sem]) rfl ⟨TT, rfl, HZ.out, F.out⟩

/-- An update that was drawn. -/
def DrawnUpdate (w : World) (e : Ending) (w' : World) : Prop := ∃ k v : Int, e = .returned (.agg #[.int .i64 k, .int .i64 v]) ∧ Below w.heap.size w w'
set_option maxRecDepth 100000 in
set_option maxHeartbeats 2000000 in
theorem drawUpdateText_calls (a : Option Addr) (n cap : Nat) (w : World) (hc : n ≤ cap) (hm : cap ≤ maxLen) (hb : BytesAt w a n) :
    Calls Tryd.prog 30 #[.slice a n cap] w (DrawnUpdate w) := by
  have s0 := (St.start w).alloc (.cells #[.int .i64 0, .int .i64 0] 25)
  go_enter Tryd.func30, Tryd.ntmps30
  go_wp2_with fail
  refine (l6Open_st a n cap s0 hc hm hb).mono ?_
  rintro e w1 ⟨b, rfl, s1⟩
  go_wp2_with fail
  refine (l91Update_st b 0 s1 (by omega)).mono ?_
  rintro e w2 ⟨k, v, rfl, _, s2⟩
  have s3 := s2.at1
  obtain ⟨c3, f3⟩ := s3.cells
  have l3 := s3.lt.2
  have s4 := (s3.set 0 (.int .i64 k)).set 1 (.int .i64 v)
  have q4 := s4.cells.1
  have FB := Lib.hid s4.below
  clear s0 s1 s2 s3 s4
  go_wp2_with fail
  exact bodyPost_ret (v := .agg #[.int .i64 k, .int .i64 v]) (by simp [results, Tryd.results30, go_sem, q4]) rfl ⟨k, v, rfl, FB.out⟩
end Go.Proofs.YtebklbncfcdkmaaDoor
