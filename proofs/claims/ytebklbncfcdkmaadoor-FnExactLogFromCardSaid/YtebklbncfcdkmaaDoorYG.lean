
/-
  The walks of the program's updateFrom and parseLog. Conditions: the text's length; a variable of the library's holds some number.
-/
import Derived.Test.YtebklbncfcdkmaaDoorYE
import Derived.Lib.SplitLaws
namespace Go.Proofs.YtebklbncfcdkmaaDoor
open Go.RowKit

/-- What updateFrom hands back. -/
def FoundUpd (L : List UInt8) (w : World) (e : Ending) (w' : World) : Prop :=
  ∃ (u : Upd) (b : Bool), e = .returned (.tuple #[.agg #[.int .i64 u.1, .int .i64 u.2], .bool b]) ∧ (b = true → IsUpd L u) ∧ (b = false → ∀ x, ¬ IsUpd L x) ∧ Below w.heap.size w w'
theorem upd_len {L : List UInt8} {u : Upd} (h : IsUpd L u) : 3 ≤ L.length ∧ L.length ≤ 4 := by
  obtain ⟨k, v, r, _, rfl, _, _, _, h1, h2, _⟩ := isUpd_form h
  simp; omega
theorem upd_eq {L : List UInt8} {u : Upd} (h : IsUpd L u) (h1 : 1 < L.length) : L[1] = 61 := by
  obtain ⟨k, v, r, _, rfl, _⟩ := isUpd_form h
  rfl
theorem upd_digs {L : List UInt8} {u : Upd} (h : IsUpd L u) : ∃ v, digsOf 0 (L.drop 2) = some v := by
  obtain ⟨k, v, r, _, rfl, _, _, _, _, _, hd⟩ := isUpd_form h
  exact ⟨v, hd⟩
theorem upd_yes {L : List UInt8} {u : Upd} (h : updText u = L) (hne : L ≠ []) : IsUpd L u := by
  unfold updText at h
  split at h
  · rename_i ho; exact ⟨ho, h⟩
  · exact absurd h.symm hne
theorem upd_not {L : List UInt8} {c : Nat} {a : Nat} (h0 : 0 < L.length) (hc : L[0].toNat = c) (hd : digsOf 0 (L.drop 2) = some a) (h : updText ((c : Int) - 48, (a : Int)) ≠ L) : ∀ x, ¬ IsUpd L x := by
  intro x hx
  obtain ⟨k, v, r, rfl, rfl, hk, _, _, _, _, hd'⟩ := isUpd_form hx
  have ea : a = v := Option.some.inj (hd.symm.trans hd')
  have ec : c = 48 + k := by
    rw [← hc]
    show (UInt8.ofNat (48 + k)).toNat = 48 + k
    rw [UInt8.toNat_ofNat']; omega
  apply h
  rw [show ((c : Int) - 48) = (k : Int) by omega, ea]
  unfold updText
  rw [if_pos hx.1, hx.2]
theorem digs_step2 {S : ByteArray} {k a : Nat} (h : k < S.size) (hd : digsOf a (S.data.toList.drop k) = digsOf 0 (S.data.toList.drop 2)) :
    digsOf 0 (S.data.toList.drop 2) = if 48 ≤ S[k].toNat ∧ S[k].toNat ≤ 57 then digsOf (10 * a + (S[k].toNat - 48)) (S.data.toList.drop (k + 1)) else none := by
  rw [← hd, List.drop_eq_getElem_cons (by simpa using h)]
  rfl

set_option maxRecDepth 100000 in
set_option maxHeartbeats 4000000 in
theorem updateFrom_calls (S : ByteArray) (w : World) (hS : S.size ≤ 140737488355328) :
    Calls Tryd.prog 78 #[.string S] w (FoundUpd S.data.toList w) := by
  have hlen : S.data.toList.length = S.size := by simp
  have s0 := (St.start w).alloc (.cells #[.int .i64 0, .int .i64 0] 25)
  have ZERO := Lib.hid (fun W R (s : St w W (box w.heap.size #[.int .i64 0, .int .i64 0] 25 :: R)) => (s.set 0 (.int .i64 0)).set 1 (.int .i64 0))
  by_cases h1 : S.size < 3
  · have NO : Hid (∀ x, ¬ IsUpd S.data.toList x) := Lib.hid fun x hx => by have := upd_len hx; omega
    have q1 := s0.cells.1
    have FB := Lib.hid s0.below
    have t1 : (S.size : Int) < 3 := by omega
    clear s0 hlen h1
    go_enter Tryd.func78, Tryd.ntmps78
    go_wp2_with fail
    exact bodyPost_ret (v := .tuple #[.agg #[.int .i64 0, .int .i64 0], .bool false]) (by simp [results, Tryd.results78, go_sem, q1]) rfl ⟨(0, 0), false, rfl, (fun h => by cases h), fun _ => NO.out, FB.out⟩
  · by_cases h2 : 4 < S.size
    · have NO : Hid (∀ x, ¬ IsUpd S.data.toList x) := Lib.hid fun x hx => by have := upd_len hx; omega
      have q1 := s0.cells.1
      have FB := Lib.hid s0.below
      have t1 : ¬ (S.size : Int) < 3 := by omega
      have t2 : (4 : Int) < (S.size : Int) := by omega
      clear s0 hlen h1 h2
      go_enter Tryd.func78, Tryd.ntmps78
      go_wp2_with fail
      exact bodyPost_ret (v := .tuple #[.agg #[.int .i64 0, .int .i64 0], .bool false]) (by simp [results, Tryd.results78, go_sem, q1]) rfl ⟨(0, 0), false, rfl, (fun h => by cases h), fun _ => NO.out, FB.out⟩
    · have h1s : 1 < S.size := by omega
      obtain ⟨c, hc⟩ : ∃ c : Nat, S[1].toNat = c := ⟨_, rfl⟩
      by_cases h61 : c = 61
      · subst h61
        have t1 : ¬ (S.size : Int) < 3 := by omega
        have t2 : ¬ (4 : Int) < (S.size : Int) := by omega
        have t5 : (1 : Int) < (S.size : Int) := by omega
        have h34 : 3 ≤ S.size ∧ S.size ≤ 4 := by omega
        have h0s : 0 < S.size := by omega
        obtain ⟨c0, hc0⟩ : ∃ c : Nat, (S[0]'h0s).toNat = c := ⟨_, rfl⟩
        have hcl0 : c0 < 256 := by rw [← hc0]; exact UInt8.toNat_lt _
        have HC0 := Lib.hid hc0
        have HL := Lib.hid hlen
        clear hlen h1 h2 hc0
        go_enter Tryd.func78, Tryd.ntmps78
        go_wp2_with fail
        clear t1 t2 t5 hc
        go_loopw [4, 5] (fun v i wr => ∃ k a : Nat, 2 ≤ k ∧ k ≤ S.size ∧ i = .int .i64 k ∧ v = .int .i64 a ∧ (k = 2 ∧ a = 0 ∨ k = 3 ∧ a ≤ 9 ∨ k = 4 ∧ a ≤ 99) ∧ digsOf a (S.data.toList.drop k) = digsOf 0 (S.data.toList.drop 2) ∧ St w wr [box w.heap.size #[.int .i64 0, .int .i64 0] 25]) (fun _ i _ => S.size - (intOf i).toNat)
        case atStart => exact ⟨2, 0, Nat.le_refl _, by omega, rfl, rfl, .inl ⟨rfl, rfl⟩, rfl, s0⟩
        case round =>
          clear s0
          obtain ⟨k, a, hk2, hk, rfl, rfl, hb, hd, s1⟩ := hrel
          by_cases hlt : k < S.size
          · have DS := Lib.hid (digs_step2 hlt hd)
            obtain ⟨c, hc⟩ : ∃ c : Nat, S[k].toNat = c := ⟨_, rfl⟩
            have i1 : (k : Int) < (S.size : Int) := by omega
            have hcl : c < 256 := by rw [← hc]; exact UInt8.toNat_lt _
            by_cases g : 48 ≤ c ∧ c ≤ 57
            · have t1 : decide ((c : Int) < 48) = false := by simp; omega
              have t2 : decide ((57 : Int) < (c : Int)) = false := by simp; omega
              have g3 : (48 : Int) ≤ (c : Int) := by omega
              have g4 : (c : Int) ≤ 57 := by omega
              have ab : (a : Int) ≤ 99 := by omega
              have D2 : Hid (digsOf (10 * a + (c - 48)) (S.data.toList.drop (k + 1)) = digsOf 0 (S.data.toList.drop 2)) := Lib.hid (by rw [DS.out, hc, if_pos g])
              have B2 : Hid (k + 1 = 2 ∧ 10 * a + (c - 48) = 0 ∨ k + 1 = 3 ∧ 10 * a + (c - 48) ≤ 9 ∨ k + 1 = 4 ∧ 10 * a + (c - 48) ≤ 99) := Lib.hid (by omega)
              clear hb hd g
              go_wp2_with fail
              go_roundw
              case rel => exact ⟨k + 1, 10 * a + (c - 48), by omega, hlt, by go_num, by go_num, B2.out, D2.out, s1⟩
              case measure => simp [intOf]; omega
            · have NO : Hid (∀ x, ¬ IsUpd S.data.toList x) := Lib.hid fun x hx => by
                obtain ⟨v, hv⟩ := upd_digs hx
                have := DS.out
                rw [hv, hc, if_neg g] at this
                cases this
              obtain ⟨c1, f1⟩ := s1.cells
              have l1 := s1.lt.2
              have s2 := ZERO.out _ _ s1
              have q2 := s2.cells.1
              have FB := Lib.hid s2.below
              clear hb hd s1 s2 ZERO
              by_cases g1 : c < 48
              · have t1 : decide ((c : Int) < 48) = true := by simp; omega
                clear g g1
                go_wp2_with fail
                exact bodyPost_ret (v := .tuple #[.agg #[.int .i64 0, .int .i64 0], .bool false]) (by simp [results, Tryd.results78, go_sem, q2]) rfl ⟨(0, 0), false, rfl, (fun h => by cases h), fun _ => NO.out, FB.out⟩
              · have t1 : decide ((c : Int) < 48) = false := by simp; omega
                have t2 : decide ((57 : Int) < (c : Int)) = true := by simp; omega
                clear g g1
                go_wp2_with fail
                exact bodyPost_ret (v := .tuple #[.agg #[.int .i64 0, .int .i64 0], .bool false]) (by simp [results, Tryd.results78, go_sem, q2]) rfl ⟨(0, 0), false, rfl, (fun h => by cases h), fun _ => NO.out, FB.out⟩
          · have ek : S.data.toList.drop k = [] := List.drop_of_length_le (by simp; omega)
            rw [ek] at hd
            have DG : Hid (digsOf 0 (S.data.toList.drop 2) = some a) := Lib.hid hd.symm
            have z0 : (0 : Int) < (S.size : Int) := by omega
            have ab : (a : Int) ≤ 99 := by omega
            have hcb : (c0 : Int) < 256 := by omega
            have hc0 := HC0.out
            have UT := Lib.hid (updateText_calls ((c0 : Int) - 48) (a : Int))
            have s2 := s1.alloc (.cells #[.int .i64 ((c0 : Int) - 48), .int .i64 (a : Int)] 25)
            by_cases he : updText ((c0 : Int) - 48, (a : Int)) = S.data.toList
            · have YES : Hid (IsUpd S.data.toList ((c0 : Int) - 48, (a : Int))) := Lib.hid (upd_yes he (fun e => by have := HL.out; rw [e] at this; simp at this; omega))
              rw [show (⟨(updText ((c0 : Int) - 48, (a : Int))).toArray⟩ : ByteArray) = S from ByteArray.ext (Array.toList_inj.1 he)] at UT
              clear hd hb ek he s1
              go_wp2_with fail
              refine (UT.out _).mono ?_
              rintro e w3 ⟨rfl, hb3⟩
              have s3 := s2.call hb3
              obtain ⟨c3, _⟩ := s3.cells
              obtain ⟨d3, f3⟩ := s3.drop.cells
              have l3 := s3.drop.lt.2
              have s4 := (s3.drop.set 0 (.int .i64 ((c0 : Int) - 48))).set 1 (.int .i64 (a : Int))
              have q4 := s4.cells.1
              have FB := Lib.hid s4.below
              clear s2 hb3 s3 s4
              go_wp2_with fail
              exact bodyPost_ret (v := .tuple #[.agg #[.int .i64 ((c0 : Int) - 48), .int .i64 (a : Int)], .bool true]) (by simp [results, Tryd.results78, go_sem, q4]) rfl ⟨((c0 : Int) - 48, (a : Int)), true, rfl, (fun _ => YES.out), (fun h => by cases h), FB.out⟩
            · have NO : Hid (∀ x, ¬ IsUpd S.data.toList x) := Lib.hid (upd_not (by rw [HL.out]; exact h0s) (by rw [← hc0]; rfl) DG.out he)
              obtain ⟨TT, hTT⟩ : ∃ TT : ByteArray, (⟨(updText ((c0 : Int) - 48, (a : Int))).toArray⟩ : ByteArray) = TT := ⟨_, rfl⟩
              have tne : (TT.toList == S.toList) = false := by
                rw [Lib.toList_data, Lib.toList_data, ← hTT]; simpa using he
              have tne2 : TT ≠ S := fun e => he (by rw [← e, ← hTT])
              rw [hTT] at UT
              clear hd hb ek he s1 hTT
              go_wp2_with fail
              refine (UT.out _).mono ?_
              rintro e w3 ⟨rfl, hb3⟩
              have s3 := s2.call hb3
              obtain ⟨c3, _⟩ := s3.cells
              obtain ⟨d3, f3⟩ := s3.drop.cells
              have l3 := s3.drop.lt.2
              have s4 := (s3.drop.set 0 (.int .i64 0)).set 1 (.int .i64 0)
              have q4 := s4.cells.1
              have FB := Lib.hid s4.below
              clear s2 hb3 s3 s4
              go_wp2_with fail
              exact bodyPost_ret (v := .tuple #[.agg #[.int .i64 0, .int .i64 0], .bool false]) (by simp [results, Tryd.results78, go_sem, q4]) rfl ⟨(0, 0), false, rfl, (fun h => by cases h), fun _ => NO.out, FB.out⟩
      · have NO : Hid (∀ x, ¬ IsUpd S.data.toList x) := Lib.hid fun x hx => by
          have := upd_eq hx (by omega)
          have e : S.data.toList[1]'(by omega) = S[1] := rfl
          rw [e] at this
          rw [this] at hc
          exact h61 hc.symm
        have q1 := s0.cells.1
        have FB := Lib.hid s0.below
        have t1 : ¬ (S.size : Int) < 3 := by omega
        have t2 : ¬ (4 : Int) < (S.size : Int) := by omega
        have t3 : ((c : Int) == 61) = false := by simp; omega
        have t4 : ((c : Int) != 61) = true := by simp; omega
        have t5 : (1 : Int) < (S.size : Int) := by omega
        clear s0 hlen h1 h2 h61
        go_enter Tryd.func78, Tryd.ntmps78
        go_wp2_with fail
        exact bodyPost_ret (v := .tuple #[.agg #[.int .i64 0, .int .i64 0], .bool false]) (by simp [results, Tryd.results78, go_sem, q1]) rfl ⟨(0, 0), false, rfl, (fun h => by cases h), fun _ => NO.out, FB.out⟩

/-- The library's variable internal/bytealg.MaxLen holds some number. -/
def MaxCell (w : World) : Prop := ∃ m, w.cell? ⟨2, 0, none⟩ = some (.int .i64 m)
theorem MaxCell.below {w w' : World} (h : MaxCell w) (hb : Below w.heap.size w w') : MaxCell w' := by
  obtain ⟨m, hm⟩ := h
  exact ⟨m, by rw [hb.cell (p := ⟨2, 0, none⟩) (lt_of_cell hm)]; exact hm⟩
theorem split_calls (S : ByteArray) (w : World) (hS : S.size ≤ 2097152) (hM : MaxCell w) :
    Calls Tryd.prog 77 #[.string S, .string ⟨#[44]⟩] w (WasCut S w) := by
  obtain ⟨m, hm⟩ := hM
  refine (Tryd.strings_Split S ⟨#[44]⟩ m w (by omega) hm (by decide)).mono ?_
  rintro e w' ⟨rfl, rfl⟩
  obtain ⟨ps, hps⟩ : ∃ ps, Lib.splitB ⟨#[44]⟩ 0 (Lib.countB S ⟨#[44]⟩) S = ps := ⟨_, rfl⟩
  have hl : ps.length = Lib.countB S ⟨#[44]⟩ + 1 := by rw [← hps]; exact Lib.splitB_all ⟨#[44]⟩ (by decide) 0 _ S rfl
  have hc : Lib.countB S ⟨#[44]⟩ ≤ S.size := Lib.countB_le ⟨#[44]⟩ (by decide) S.size S (Nat.le_refl _)
  have hcut : ps.map (·.data.toList) = cutL S.data.toList := by
    rw [← hps, Lib.splitB_data]
    exact split_cut _ _ (Nat.le_refl _)
  have s1 := ((St.start w).alloc (.cells (ps.map Value.string).toArray 9)).madeRow 1 ps.length (by simp) (by unfold maxLen; omega) ps.length (Nat.le_refl _)
  rw [hps, ← hl]
  refine ⟨_, ps, rfl, hcut, by omega, pieces_le hcut.symm, ?_⟩
  rw [show (ps.map Value.string).toArray.toList.take (ps.length * 1) = ps.map Value.string by rw [Nat.mul_one, List.take_of_length_le (by simp)]] at s1
  exact s1

theorem upds_snoc {L : List UInt8} {us : List Upd} {k : Nat} {u : Upd} (hl : us.length = k) (h : ∀ j, (hj : j < us.length) → IsUpd ((cutL L).getD j []) us[j]) (hu : IsUpd ((cutL L).getD k []) u) :
    ∀ j, (hj : j < (us ++ [u]).length) → IsUpd ((cutL L).getD j []) (us ++ [u])[j] := by
  intro j hj
  by_cases e : j < us.length
  · rw [List.getElem_append_left e]; exact h j e
  · have : j = us.length := by simp at hj; omega
    subst this
    rw [List.getElem_append_right (Nat.le_refl _)]
    subst hl
    simpa using hu

/-- What parseLog hands back. -/
def Parsed (L : List UInt8) (w : World) (e : Ending) (w' : World) : Prop :=
  (∃ (v : Value) (us : List Upd), e = .returned (.tuple #[v, .nilIface]) ∧ IsLog L us ∧ St w w' [row v 25 2 us.length (ucells us)]) ∨
  (∃ i : Int, e = .returned (.tuple #[.slice none 0 0, .iface 83 (.agg #[.int .i64 i])]) ∧ (∀ vs, ¬ IsLog L vs) ∧ Below w.heap.size w w')

set_option maxRecDepth 100000 in
set_option maxHeartbeats 4000000 in
theorem parseLog_calls (S : ByteArray) (w : World) (hS : S.size ≤ 2097152) (hM : MaxCell w) :
    Calls Tryd.prog 57 #[.string S] w (Parsed S.data.toList w) := by
  have s0 := ((St.start w).alloc (.cells #[] 25)).madeRow 2 0 rfl (by simp [maxLen]) 0 (Nat.le_refl _)
  simp only [List.take_nil] at s0
  by_cases h45 : S.data.toList = [45]
  · obtain rfl : S = ⟨#[45]⟩ := ByteArray.ext (Array.toList_inj.1 h45)
    clear h45 hS
    go_enter Tryd.func57, Tryd.ntmps57
    go_wp2_with fail
    go_ret2
    exact .inl ⟨_, [], rfl, isLog_hyphen, s0⟩
  · have HN := Lib.hid h45
    have t1 : (S.toList == [45]) = false := by rw [Lib.toList_data]; simpa using h45
    have HM := Lib.hid (hM.below s0.below)
    clear h45 hM
    go_enter Tryd.func57, Tryd.ntmps57
    go_wp2_with fail
    refine (split_calls S _ hS HM.out).mono ?_
    rintro e w1 ⟨v, ps, rfl, hps, hpl, hpz, ss⟩
    obtain ⟨aw, capw, rfl, _⟩ := own_cells ss.own
    have s1 := (s0.join ss).at1
    have HPS := Lib.hid hps
    have HPZ := Lib.hid hpz
    have HPL : Hid (ps.length = (cutL S.data.toList).length) := Lib.hid (by rw [← hps]; simp)
    clear ss s0 t1 hps hpz
    go_wp2_with fail
    go_loopw [4, 16] (fun v i wr => ∃ (k : Nat) (us : List Upd), k ≤ ps.length ∧ i = .int .i64 k ∧ us.length = k ∧ k ≤ 12 ∧ (∀ j, (hj : j < us.length) → IsUpd ((cutL S.data.toList).getD j []) us[j]) ∧ St w wr [row v 25 2 us.length (ucells us), row (.slice aw ps.length capw) 9 1 ps.length (ps.map Value.string)]) (fun _ i _ => ps.length - (intOf i).toNat)
    case atStart => exact ⟨0, [], Nat.zero_le _, rfl, rfl, by omega, fun j hj => (by simp at hj), s1⟩
    case round =>
      clear s1
      obtain ⟨k, us, hk, rfl, hul, hk12, hus, s3⟩ := hrel
      have HUL := Lib.hid hul
      have HUS := Lib.hid hus
      have hul1 : us.length ≤ k := by omega
      clear hul hus
      by_cases hlt : k < ps.length
      · have hx : StrsAt wr aw ps := own_cellsR s3.at1.own
        obtain ⟨b, off, rfl, c0⟩ := hx.cells k hlt
        have HPK : Hid ((cutL S.data.toList).getD k [] = (ps[k]).data.toList) := Lib.hid (by
          rw [← HPS.out]; simp [hlt])
        have hz := HPZ.out _ (List.getElem_mem hlt)
        have NOT := Lib.hid (fun h => not_isLog (s := S.data.toList) HN.out (j := k) (by rw [← HPL.out]; exact hlt) h)
        rw [HPK.out] at NOT
        have i1 : (k : Int) < (ps.length : Int) := by omega
        have i2 : (0 : Int) ≤ (k : Int) := by omega
        generalize ps[k] = p at *
        have LF := Lib.hid (fun W => updateFrom_calls p W (by omega))
        clear hx
        go_wp2_with fail
        refine (LF.out _).mono ?_
        rintro e w5 ⟨⟨p1, p2⟩, ok, rfl, hy, hn, hb5⟩
        have s5 := (s3.call hb5).alloc (.cells #[.int .i64 p1, .int .i64 p2] 25)
        have HY := Lib.hid hy
        have HNN := Lib.hid hn
        clear hb5 s3 c0 hy hn
        cases ok with
        | false =>
          have NO := Lib.hid (NOT.out (.inl (HNN.out rfl)))
          have FB := Lib.hid s5.below
          clear s5
          go_wp2_with fail
          go_ret2
          exact .inr ⟨_, rfl, NO.out, FB.out⟩
        | true =>
          by_cases h12 : 12 ≤ k
          · have NO := Lib.hid (NOT.out (.inr h12))
            have FB := Lib.hid s5.below
            have t12 : decide ((12 : Int) ≤ (k : Int)) = true := by simp; omega
            clear s5 h12
            go_wp2_with fail
            go_ret2
            exact .inr ⟨_, rfl, NO.out, FB.out⟩
          · have t12 : decide ((12 : Int) ≤ (k : Int)) = false := by simp; omega
            have HK12 := Lib.hid h12
            have d0 := (s5.cells.1 0).trans (show _ = some (Value.int .i64 p1) from rfl)
            have d1 := (s5.cells.1 1).trans (show _ = some (Value.int .i64 p2) from rfl)
            have s6 := s5.drop
            have o6 := s6.own
            have lR := s6.size
            simp only [World.size_alloc] at lR
            have HUN := Lib.hid (HY.out rfl)
            clear h12 s5
            go_wp2_with ((at_builtin; refine list_app elem_upd (by rfl) _ _ (by rfl) w.heap.size u4 us.length (ucells us) (by rfl) (w5.heap.size + 1) 1 1 (by rfl) #[.int .i64 p1, .int .i64 p2] 25 (0, 0) (by rfl) (by simp [Value.oneCell']) (by omega) (by omega) (by omega) (heap_second w5 _ _) (o6.alloc _) (by simp; omega) ?_); intro gg cap3 w7 hown hgrow hat hl)
            have s7 := s6.app (World.grownBy_alloc _ _ none) hown hgrow hat hl
            clear hown hgrow hat hl o6 s6
            go_wp2_with fail
            go_roundw
            case rel => exact ⟨k + 1, us ++ [(p1, p2)], hlt, by go_num, by simp [HUL.out], by have := HK12.out; omega, upds_snoc HUL.out HUS.out (by rw [HPK.out]; exact HUN.out), by rw [ucells_append]; simpa [ucells] using s7⟩
            case measure => simp [intOf]; omega
      · obtain rfl : k = ps.length := by omega
        have IL : Hid (IsLog S.data.toList us) := Lib.hid (isLog_of HN.out (by rw [HUL.out]; exact hk12) (by rw [HUL.out]; exact HPL.out) HUS.out)
        have F := Lib.hid s3.only
        clear s3
        go_wp2_with fail
        go_ret2
        exact .inl ⟨_, us, rfl, IL.out, F.out⟩

end Go.Proofs.YtebklbncfcdkmaaDoor
