
/-
  The walks of the reference's functions that read a log: numbers, updates, cuts, LogFrom. One condition: the text's length.
-/
import Derived.Test.YtebklbncfcdkmaaDoorYB
import Derived.Test.YtebklbncfcdkmaaDoorJn
import Derived.Test.YtebklbncfcdkmaaDoorOc
namespace Go.Proofs.YtebklbncfcdkmaaDoor
open Go.RowKit

theorem digs_step {S : ByteArray} {k a : Nat} (h : k < S.size) (hd : digsOf a (S.data.toList.drop k) = digsOf 0 S.data.toList) :
    digsOf 0 S.data.toList = if 48 ≤ S[k].toNat ∧ S[k].toNat ≤ 57 then digsOf (10 * a + (S[k].toNat - 48)) (S.data.toList.drop (k + 1)) else none := by
  rw [← hd, List.drop_eq_getElem_cons (by simpa using h)]
  rfl
set_option maxRecDepth 100000 in
set_option maxHeartbeats 2000000 in
theorem l41Number_calls (S : ByteArray) (w : World) (hS : S.size ≤ 140737488355328) :
    Calls Tryd.prog 83 #[.string S] w fun e w' => e = .returned (.int .i64 (numL S.data.toList)) ∧ w = w' := by
  have hlen : S.data.toList.length = S.size := by simp
  by_cases h : 1 ≤ S.size ∧ S.size ≤ 2
  · have FN : Hid (numL S.data.toList = orMinus (digsOf 0 S.data.toList)) := Lib.hid (by rw [numL, if_pos (by omega)])
    have HX : Hid ((1 : Int) ≤ (S.size : Int) ∧ (S.size : Int) ≤ 2) := Lib.hid (by omega)
    have h2 := h.2
    clear h hlen
    go_enter Tryd.func83, Tryd.ntmps83
    go_wp2_with fail
    refine (l6In_yes _ _ _ _ HX.out).mono ?_
    rintro e w' ⟨rfl, rfl⟩
    go_wp2_with fail
    go_loop [3, 4] (fun n i => ∃ k a : Nat, k ≤ S.size ∧ i = .int .i64 k ∧ n = .int .i64 a ∧ (k = 0 ∧ a = 0 ∨ k = 1 ∧ a ≤ 9 ∨ k = 2 ∧ a ≤ 99) ∧ digsOf a (S.data.toList.drop k) = digsOf 0 S.data.toList) (fun _ i => S.size - (intOf i).toNat)
    case atStart => exact ⟨0, 0, Nat.zero_le _, rfl, rfl, .inl ⟨rfl, rfl⟩, rfl⟩
    case round =>
      obtain ⟨k, a, hk, rfl, rfl, hb, hd⟩ := hrel
      by_cases hlt : k < S.size
      · have DS := Lib.hid (digs_step hlt hd)
        obtain ⟨c, hc⟩ : ∃ c : Nat, S[k].toNat = c := ⟨_, rfl⟩
        have i1 : (k : Int) < (S.size : Int) := by omega
        have hcl : c < 256 := by rw [← hc]; exact UInt8.toNat_lt _
        by_cases g1 : c < 48
        · have F : Hid (numL S.data.toList = -1) := Lib.hid (by rw [FN.out, DS.out, hc, if_neg (by omega)]; rfl)
          have t1 : decide ((c : Int) < 48) = true := by simp; omega
          clear hb hd g1
          go_wp2_with fail
          go_ret
          exact ⟨by rw [F.out]; rfl, rfl⟩
        · by_cases g2 : 57 < c
          · have F : Hid (numL S.data.toList = -1) := Lib.hid (by rw [FN.out, DS.out, hc, if_neg (by omega)]; rfl)
            have t1 : decide ((c : Int) < 48) = false := by simp; omega
            have t2 : decide ((57 : Int) < (c : Int)) = true := by simp; omega
            clear hb hd g1 g2
            go_wp2_with fail
            go_ret
            exact ⟨by rw [F.out]; rfl, rfl⟩
          · have t1 : decide ((c : Int) < 48) = false := by simp; omega
            have t2 : decide ((57 : Int) < (c : Int)) = false := by simp; omega
            have g3 : (48 : Int) ≤ (c : Int) := by omega
            have g4 : (c : Int) ≤ 57 := by omega
            have ab : (a : Int) ≤ 99 := by omega
            have D2 : Hid (digsOf (10 * a + (c - 48)) (S.data.toList.drop (k + 1)) = digsOf 0 S.data.toList) := Lib.hid (by rw [DS.out, hc, if_pos (by omega)])
            have B2 : Hid (k + 1 = 0 ∧ 10 * a + (c - 48) = 0 ∨ k + 1 = 1 ∧ 10 * a + (c - 48) ≤ 9 ∨ k + 1 = 2 ∧ 10 * a + (c - 48) ≤ 99) := Lib.hid (by omega)
            clear hb hd g1 g2
            go_wp2_with fail
            go_round
            case rel => exact ⟨k + 1, 10 * a + (c - 48), hlt, by go_num, by go_num, B2.out, D2.out⟩
            case measure => simp [intOf]; omega
      · have ek : S.data.toList.drop k = [] := List.drop_of_length_le (by simp; omega)
        rw [ek] at hd
        have F : Hid (numL S.data.toList = (a : Int)) := Lib.hid (by rw [FN.out, ← hd]; rfl)
        clear hd hb ek
        go_wp2_with fail
        go_ret
        exact ⟨by rw [F.out]; rfl, rfl⟩
  · have HX : Hid (¬ ((1 : Int) ≤ (S.size : Int) ∧ (S.size : Int) ≤ 2)) := Lib.hid (by omega)
    have F : Hid (numL S.data.toList = -1) := Lib.hid (by rw [numL, if_neg (by omega)])
    clear h hlen
    go_enter Tryd.func83, Tryd.ntmps83
    go_wp2_with fail
    refine (l6In_no _ _ _ _ HX.out).mono ?_
    rintro e w' ⟨rfl, rfl⟩
    go_wp2_with fail
    go_ret
    exact ⟨by rw [F.out]; rfl, rfl⟩

theorem from_step {S : ByteArray} {k : Nat} (h : k < S.size) (hd : fromL (S.data.toList.take k) (S.data.toList.drop k) = fromL [] S.data.toList) :
    fromL [] S.data.toList = if S[k].toNat = 61 then (numL (S.data.toList.take k), numL (S.data.toList.drop (k + 1))) else fromL (S.data.toList.take (k + 1)) (S.data.toList.drop (k + 1)) := by
  rw [← hd, List.drop_eq_getElem_cons (by simpa using h), fromL, take_snocB S k h]
  have e : (S.data.toList[k]'(by simpa using h)) = S[k] := rfl
  rw [e]
  by_cases h61 : S[k] = 61
  · rw [if_pos h61, if_pos (by rw [h61]; rfl)]
  · rw [if_neg h61, if_neg (show ¬ S[k].toNat = 61 from fun hc => h61 (UInt8.toNat_inj.1 (by rw [hc]; rfl)))]
set_option maxRecDepth 100000 in
set_option maxHeartbeats 2000000 in
theorem l41From_calls (S : ByteArray) (w : World) (hS : S.size ≤ 140737488355328) :
    Calls Tryd.prog 60 #[.string S] w fun e w' => e = .returned (.agg #[.int .i64 (fromL [] S.data.toList).1, .int .i64 (fromL [] S.data.toList).2]) ∧ Below w.heap.size w w' := by
  have s0 := (St.start w).alloc (.cells #[.int .i64 0, .int .i64 0] 25)
  go_enter Tryd.func60, Tryd.ntmps60
  go_wp2_with fail
  go_loopw [3] (fun i wr => ∃ k : Nat, k ≤ S.size ∧ i = .int .i64 k ∧ fromL (S.data.toList.take k) (S.data.toList.drop k) = fromL [] S.data.toList ∧ St w wr [box w.heap.size #[.int .i64 0, .int .i64 0] 25]) (fun i _ => S.size - (intOf i).toNat)
  case atStart => exact ⟨0, Nat.zero_le _, rfl, rfl, s0⟩
  case round =>
    clear s0
    obtain ⟨k, hk, rfl, hd, s1⟩ := hrel
    by_cases hlt : k < S.size
    · have FS := Lib.hid (from_step hlt hd)
      obtain ⟨c, hc⟩ : ∃ c : Nat, S[k].toNat = c := ⟨_, rfl⟩
      have i1 : (k : Int) < (S.size : Int) := by omega
      clear hd
      by_cases g1 : c = 61
      · have F : Hid (fromL [] S.data.toList = (numL (S.data.toList.take k), numL (S.data.toList.drop (k + 1)))) := Lib.hid (by rw [FS.out, hc, if_pos g1])
        subst g1
        have e1 : Hid ((S.extract 0 k).data.toList = S.data.toList.take k) := Lib.hid (by rw [Lib.extract_data]; simp)
        have e2 : Hid ((S.extract (k + 1) S.size).data.toList = S.data.toList.drop (k + 1)) := Lib.hid (by rw [Lib.extract_to_end])
        have z1 : Hid ((S.extract 0 k).size ≤ 140737488355328) := Lib.hid (by rw [ByteArray.size_extract]; omega)
        have z2 : Hid ((S.extract (k + 1) S.size).size ≤ 140737488355328) := Lib.hid (by rw [ByteArray.size_extract]; omega)
        have N1 := Lib.hid (fun W => l41Number_calls (S.extract 0 k) W z1.out)
        have N2 := Lib.hid (fun W => l41Number_calls (S.extract (k + 1) S.size) W z2.out)
        rw [e1.out] at N1
        rw [e2.out] at N2
        generalize numL (S.data.toList.take k) = p at *
        generalize numL (S.data.toList.drop (k + 1)) = q at *
        have HG := Lib.hid (fun x : Grown wr => s1.call (grow_below x))
        clear s1
        go_wp2_with fail
        refine Mix.run_last_grow [0, 1, 2, 3, 4, 5, 6, 7, 8, 9] 10 rfl (by kernel_rfl) (by kernel_rfl) rfl rfl rfl ?_
        simp only [Mix.pickOps, List.filterMap_cons, List.filterMap_nil, List.getElem?_toArray, List.getElem?_cons_zero, List.getElem?_cons_succ]
        repeat (refine Mix.cons_form ?_; go_big_quiet_step (((first | (go_at_call 83; with_reducible exact Calls.grow_same ((N1.out _).mono fun _ _ h => h)) | (go_at_call 83; with_reducible exact Calls.grow_same ((N2.out _).mono fun _ _ h => h))))))
        refine wpQuiet_nil ?_
        intro x
        have s2 := HG.out x
        obtain ⟨c2, f2⟩ := s2.cells
        have l2 := s2.lt.2
        have s3 := (s2.set 0 (.int .i64 p)).set 1 (.int .i64 q)
        have q3 := s3.cells.1
        have FB := Lib.hid s3.below
        clear s2 s3 HG
        generalize grow wr x = w2 at *
        go_simp
        go_wp2_with fail
        exact bodyPost_ret (v := .agg #[.int .i64 p, .int .i64 q]) (by simp [results, Tryd.results60, go_sem, q3]) rfl ⟨by rw [F.out], FB.out⟩
      · have F : Hid (fromL (S.data.toList.take (k + 1)) (S.data.toList.drop (k + 1)) = fromL [] S.data.toList) := Lib.hid (by rw [FS.out, hc, if_neg g1])
        have t1 : ((c : Int) == 61) = false := by simp; omega
        clear g1
        go_wp2_with fail
        go_roundw
        case rel => exact ⟨k + 1, hlt, by go_num, F.out, s1⟩
        case measure => simp [intOf]; omega
    · have ek : S.data.toList.drop k = [] := List.drop_of_length_le (by simp; omega)
      rw [ek] at hd
      have F : Hid (fromL [] S.data.toList = (-1, 0)) := Lib.hid (by rw [← hd]; rfl)
      obtain ⟨c1, f1⟩ := s1.cells
      have l1 := s1.lt.2
      have s2 := (s1.set 0 (.int .i64 (-1))).set 1 (.int .i64 0)
      have q2 := s2.cells.1
      have FB := Lib.hid s2.below
      clear hd ek s1 s2
      go_wp2_with fail
      exact bodyPost_ret (v := .agg #[.int .i64 (-1), .int .i64 0]) (by simp [results, Tryd.results60, go_sem, q2]) rfl ⟨by rw [F.out], FB.out⟩

theorem elem_str : Elem Tryd.prog 86 9 1 16 := by
  obtain ⟨i, h1, h2, h3, h4⟩ := info_parts (show (Tryd.prog.info? 9).map (fun i => (i.zero, i.size, i.bytes)) = some (some (.string ⟨#[]⟩), 1, 16) by kernel_rfl)
  exact ⟨Tryd.underlying86, i, _, h1, h2, h3, h4, rfl, by decide⟩
/-- These strings lie from a on. -/
def StrsAt (w : World) (a : Option Addr) (ps : List ByteArray) : Prop := CellsAt w a (ps.map Value.string)
theorem StrsAt.below {w w' : World} {a : Option Addr} {ps : List ByteArray} (h : StrsAt w a ps) (hb : Below w.heap.size w w') : StrsAt w' a ps := CellsAt.below h hb
theorem StrsAt.cells {w : World} {a : Option Addr} {ps : List ByteArray} (h : StrsAt w a ps) (j : Nat) (hj : j < ps.length) : ∃ b off, a = some ⟨b, off, none⟩ ∧ w.cell? ⟨b, off + j, none⟩ = some (.string ps[j]) := by
  rcases h with h | ⟨b, off, rfl, hc⟩
  · have : ps.length = 0 := by have := congrArg List.length h; simpa using this
    omega
  · refine ⟨b, off, rfl, ?_⟩
    rw [hc j (by simpa using hj), List.getElem?_map, List.getElem?_eq_getElem hj]; rfl
theorem strs_snoc (ps : List ByteArray) (p : ByteArray) : (ps ++ [p]).map Value.string = ps.map Value.string ++ [.string p] := by simp

theorem cut_step {L : List UInt8} {f k : Nat} {c : UInt8} (hfk : f ≤ k) (hk : k < L.length) (hc : L[k] = c) (hno : ∀ c ∈ (L.take k).drop f, c ≠ 44) :
    if c = 44 then cutL (L.drop f) = (L.take k).drop f :: cutL (L.drop (k + 1)) else ∀ c ∈ (L.take (k + 1)).drop f, c ≠ 44 := by
  split
  · rename_i h
    have e : L.drop f = (L.take k).drop f ++ 44 :: L.drop (k + 1) := by
      rw [← h, ← hc, ← List.drop_eq_getElem_cons hk]
      conv => lhs; rw [← List.take_append_drop k L]
      rw [List.drop_append, List.length_take, show f - min k L.length = 0 by omega]
      rfl
    rw [e, cutL_app hno]
  · rename_i h
    rw [List.take_succ_eq_append_getElem hk, hc, List.drop_append]
    intro x hx
    rcases List.mem_append.1 hx with hx | hx
    · exact hno x hx
    · have := List.mem_of_mem_drop hx
      rw [List.mem_singleton] at this
      rw [this]; exact h
theorem cut_done {L : List UInt8} {f : Nat} (hno : ∀ c ∈ (L.take L.length).drop f, c ≠ 44) : cutL (L.drop f) = [L.drop f] := by
  rw [List.take_length] at hno
  exact cutL_none hno
theorem extract_mid (S : ByteArray) (f k : Nat) : (S.extract f k).data.toList = (S.data.toList.take k).drop f := by
  rw [Lib.extract_data, List.drop_take]

theorem cutL_le : ∀ {s p : List UInt8}, p ∈ cutL s → p.length ≤ s.length
  | [], p, h => by simp [cutL] at h; simp [h]
  | c :: r, p, h => by
    unfold cutL at h
    split at h
    · rcases List.mem_cons.1 h with rfl | h
      · simp
      · have := cutL_le h; simp; omega
    · rcases List.mem_cons.1 h with rfl | h
      · have : (cutL r).headD [] ∈ cutL r := by
          have := cutL_ne r
          cases hc : cutL r with
          | nil => exact absurd hc this
          | cons a b => simp
        have := cutL_le this
        exact Nat.succ_le_succ this
      · have := cutL_le (List.mem_of_mem_tail h); simp; omega
theorem pieces_le {ps : List ByteArray} {S : ByteArray} (h : cutL S.data.toList = ps.map (·.data.toList)) : ∀ p ∈ ps, p.size ≤ S.size := by
  intro p hp
  have h1 := cutL_le (s := S.data.toList) (p := p.data.toList) (by rw [h]; exact List.mem_map_of_mem hp)
  simpa using h1

/-- A text that was cut at its commas. -/
def WasCut (S : ByteArray) (w : World) (e : Ending) (w' : World) : Prop :=
  ∃ (v : Value) (ps : List ByteArray), e = .returned v ∧ ps.map (·.data.toList) = cutL S.data.toList ∧ ps.length ≤ S.size + 1 ∧ (∀ p ∈ ps, p.size ≤ S.size) ∧ St w w' [row v 9 1 ps.length (ps.map Value.string)]
set_option maxRecDepth 100000 in
set_option maxHeartbeats 2000000 in
theorem l41Cut_calls (S : ByteArray) (w : World) (hS : S.size ≤ 2097152) :
    Calls Tryd.prog 59 #[.string S, .int .u8 44] w (WasCut S w) := by
  have s0 := ((St.start w).alloc (.cells #[] 9)).madeRow 1 0 rfl (by simp [maxLen]) 0 (Nat.le_refl _)
  simp only [List.take_nil] at s0
  go_enter Tryd.func59, Tryd.ntmps59
  go_wp2_with fail
  go_loopw [5, 6, 7] (fun v f i wr => ∃ (k fr : Nat) (ps : List ByteArray), k ≤ S.size ∧ i = .int .i64 k ∧ f = .int .i64 fr ∧ fr ≤ k ∧ ps.length ≤ k ∧ cutL S.data.toList = ps.map (·.data.toList) ++ cutL (S.data.toList.drop fr) ∧ (∀ c ∈ (S.data.toList.take k).drop fr, c ≠ 44) ∧ St w wr [row v 9 1 ps.length (ps.map Value.string)]) (fun _ _ i _ => S.size - (intOf i).toNat)
  case atStart => exact ⟨0, 0, [], Nat.zero_le _, rfl, rfl, Nat.le_refl _, Nat.le_refl _, rfl, by simp, s0⟩
  case round =>
    clear s0
    obtain ⟨k, f, ps, hk, rfl, rfl, hfk, hpl, hcut, hno, s1⟩ := hrel
    by_cases hlt : k < S.size
    · obtain ⟨c8, hc8⟩ : ∃ c, S[k] = c := ⟨_, rfl⟩
      have CS := Lib.hid (cut_step hfk (by simpa using hlt) hc8 hno)
      have HC := Lib.hid hcut
      obtain ⟨c, hc⟩ : ∃ c : Nat, S[k].toNat = c := ⟨_, rfl⟩
      have HC8 := Lib.hid hc8
      have HCN := Lib.hid hc
      have i1 : (k : Int) < (S.size : Int) := by omega
      clear hcut hno hc8
      by_cases g1 : c = 44
      · have h44 : c8 = 44 := by
          rw [← HC8.out]; exact UInt8.toNat_inj.1 (by rw [HCN.out, g1]; rfl)
        have F := Lib.hid (by have := CS.out; rw [if_pos h44] at this; exact this)
        subst g1
        have i2 : (f : Int) ≤ (k : Int) := by omega
        have o1 := s1.own
        have lR := s1.size
        clear CS h44
        go_wp2_with ((at_builtin; refine list_app elem_str (by rfl) _ _ (by rfl) w.heap.size u5 ps.length (ps.map Value.string) (by rfl) wr.heap.size 1 1 (by rfl) #[.string (S.extract f k)] 9 (0, 0) (by rfl) (by simp [Value.oneCell']) (by omega) (by omega) (by omega) (heap_alloc_new wr _) (o1.alloc _) (by simp; omega) ?_); intro gg cap3 w7 hown hgrow hat hl)
        have s7 := s1.app (World.grownBy_alloc wr _ none) hown hgrow hat hl
        clear hown hgrow hat hl o1 s1
        go_wp2_with fail
        go_roundw
        case rel => exact ⟨k + 1, k + 1, ps ++ [S.extract f k], hlt, by go_num, by go_num, by omega, by simp; omega, by rw [HC.out, F.out, List.map_append, List.append_assoc, List.map_singleton, extract_mid]; rfl, fun c hc => (by rw [List.drop_of_length_le (by simp; omega)] at hc; cases hc), by rw [strs_snoc]; simpa using s7⟩
        case measure => simp [intOf]; omega
      · have h44 : c8 ≠ 44 := fun e => g1 (by rw [← HCN.out, HC8.out, e]; rfl)
        have F := Lib.hid (by have := CS.out; rw [if_neg h44] at this; exact this)
        have t1 : ((c : Int) == 44) = false := by simp; omega
        clear g1 CS h44
        go_wp2_with fail
        go_roundw
        case rel => exact ⟨k + 1, f, ps, hlt, by go_num, rfl, by omega, by omega, HC.out, F.out, s1⟩
        case measure => simp [intOf]; omega
    · obtain rfl : k = S.size := by omega
      have F : Hid (cutL (S.data.toList.drop f) = [(S.extract f S.size).data.toList]) := Lib.hid (by rw [cut_done (by simpa using hno), Lib.extract_to_end])
      have HC := Lib.hid hcut
      have i2 : (f : Int) ≤ (S.size : Int) := by omega
      have o1 := s1.own
      have lR := s1.size
      clear hcut hno
      go_wp2_with ((at_builtin; refine list_app elem_str (by rfl) _ _ (by rfl) w.heap.size u5 ps.length (ps.map Value.string) (by rfl) wr.heap.size 1 1 (by rfl) #[.string (S.extract f S.size)] 9 (0, 0) (by rfl) (by simp [Value.oneCell']) (by omega) (by omega) (by omega) (heap_alloc_new wr _) (o1.alloc _) (by simp; omega) ?_); intro gg cap3 w7 hown hgrow hat hl)
      have s7 := s1.app (World.grownBy_alloc wr _ none) hown hgrow hat hl
      have PS := Lib.hid (And.intro (pieces_le (ps := ps ++ [S.extract f S.size]) (S := S) (by rw [HC.out, F.out, List.map_append, List.map_singleton])) s7)
      clear hown hgrow hat hl o1 s1 s7
      go_wp2_with fail
      go_ret
      exact ⟨.slice (some ⟨gg, 0, none⟩) (ps.length + 1) cap3, ps ++ [S.extract f S.size], rfl, by rw [HC.out, F.out, List.map_append, List.map_singleton], by simp; omega, PS.out.1, by rw [strs_snoc]; simpa using PS.out.2⟩

/-- What LogFrom hands back: the text's log, or nothing if it has none. -/
def FoundLog (L : List UInt8) (us : List Upd) (b : Bool) : Prop := (b = true → IsLog L us) ∧ (b = false → us = [] ∧ ∀ vs, ¬ IsLog L vs)
theorem FoundLog.yes {L : List UInt8} {us : List Upd} (h : IsLog L us) : FoundLog L us true := ⟨fun _ => h, fun h => (by cases h)⟩
theorem FoundLog.no {L : List UInt8} (h : ∀ vs, ¬ IsLog L vs) : FoundLog L [] false := ⟨fun h => (by cases h), fun _ => ⟨rfl, h⟩⟩
theorem FoundLog.eq {L : List UInt8} {us vs : List Upd} {b c : Bool} (h : FoundLog L us b) (k : FoundLog L vs c) : us = vs ∧ b = c := by
  cases b <;> cases c
  · exact ⟨(h.2 rfl).1.trans (k.2 rfl).1.symm, rfl⟩
  · exact absurd (k.1 rfl) ((h.2 rfl).2 vs)
  · exact absurd (h.1 rfl) ((k.2 rfl).2 us)
  · exact ⟨(h.1 rfl).eq (k.1 rfl), rfl⟩
def GaveLog (L : List UInt8) (w : World) (e : Ending) (w' : World) : Prop :=
  ∃ (v : Value) (us : List Upd) (b : Bool), e = .returned (.tuple #[v, .bool b]) ∧ FoundLog L us b ∧ us.length ≤ 2097153 ∧ St w w' [row v 25 2 us.length (ucells us)]

set_option maxRecDepth 100000 in
set_option maxHeartbeats 4000000 in
theorem specLogFrom_calls (S : ByteArray) (w : World) (hS : S.size ≤ 2097152) :
    Calls Tryd.prog 32 #[.string S] w (GaveLog S.data.toList w) := by
  have s0 := ((St.start w).alloc (.cells #[] 25)).madeRow 2 0 rfl (by simp [maxLen]) 0 (Nat.le_refl _)
  simp only [List.take_nil] at s0
  by_cases h45 : S.data.toList = [45]
  · obtain rfl : S = ⟨#[45]⟩ := ByteArray.ext (Array.toList_inj.1 h45)
    clear h45 hS
    go_enter Tryd.func32, Tryd.ntmps32
    go_wp2_with fail
    go_ret2
    exact ⟨_, [], true, rfl, .yes isLog_hyphen, by simp, s0⟩
  · have HN := Lib.hid h45
    have t1 : (S.toList == [45]) = false := by rw [Lib.toList_data]; simpa using h45
    clear h45
    go_enter Tryd.func32, Tryd.ntmps32
    go_wp2_with fail
    refine (l41Cut_calls S _ hS).mono ?_
    rintro e w1 ⟨v, ps, rfl, hps, hpl, hpz, ss⟩
    obtain ⟨aw, capw, rfl, _⟩ := own_cells ss.own
    have s1 := (s0.join ss).at1
    have HPS := Lib.hid hps
    have HPZ := Lib.hid hpz
    clear ss s0 t1 hps hpz
    go_wp2_with fail
    go_loopw [4, 6] (fun v i wr => ∃ (k : Nat) (us : List Upd), k ≤ ps.length ∧ i = .int .i64 k ∧ us.length = k ∧ us = ((cutL S.data.toList).take k).map (fromL []) ∧ St w wr [row v 25 2 us.length (ucells us), row (.slice aw ps.length capw) 9 1 ps.length (ps.map Value.string)]) (fun _ i _ => ps.length - (intOf i).toNat)
    case atStart => exact ⟨0, [], Nat.zero_le _, rfl, rfl, rfl, s1⟩
    case round =>
      clear s1
      obtain ⟨k, us, hk, rfl, hul, hus, s3⟩ := hrel
      have HUL := Lib.hid hul
      have HUS := Lib.hid hus
      have hul1 : us.length ≤ k := by omega
      clear hul hus
      by_cases hlt : k < ps.length
      · have hx : StrsAt wr aw ps := own_cellsR s3.at1.own
        obtain ⟨b, off, rfl, c0⟩ := hx.cells k hlt
        have HPK : Hid (((cutL S.data.toList).take (k + 1)).map (fromL []) = us ++ [fromL [] (ps[k]).data.toList]) := Lib.hid (by
          rw [HUS.out, List.take_succ_eq_append_getElem (by rw [← HPS.out]; simpa using hlt), List.map_append]
          simp [← HPS.out])
        have hz := HPZ.out _ (List.getElem_mem hlt)
        have i1 : (k : Int) < (ps.length : Int) := by omega
        have i2 : (0 : Int) ≤ (k : Int) := by omega
        generalize ps[k] = p at *
        obtain ⟨u, hu⟩ : ∃ u, fromL [] p.data.toList = u := ⟨_, rfl⟩
        have LF := Lib.hid (fun W => l41From_calls p W (by omega))
        rw [hu] at LF HPK
        obtain ⟨p1, p2⟩ := u
        dsimp only at LF
        clear hx hu
        go_wp2_with fail
        refine (LF.out _).mono ?_
        rintro e w5 ⟨rfl, hb5⟩
        have s5 := s3.call hb5
        have o5 := s5.own
        have lR := s5.size
        clear hb5 s3 c0
        go_wp2_with ((at_builtin; refine list_app elem_upd (by rfl) _ _ (by rfl) w.heap.size u4 us.length (ucells us) (by rfl) w5.heap.size 1 1 (by rfl) #[.int .i64 p1, .int .i64 p2] 25 (0, 0) (by rfl) (by simp [Value.oneCell']) (by omega) (by omega) (by omega) (heap_alloc_new w5 _) (o5.alloc _) (by simp; omega) ?_); intro gg cap3 w7 hown hgrow hat hl)
        have s7 := s5.app (World.grownBy_alloc w5 _ none) hown hgrow hat hl
        clear hown hgrow hat hl o5 s5
        go_wp2_with fail
        go_roundw
        case rel => exact ⟨k + 1, us ++ [(p1, p2)], hlt, by go_num, by simp [HUL.out], HPK.out.symm, by rw [ucells_append]; simpa [ucells] using s7⟩
        case measure => simp [intOf]; omega
      · obtain rfl : k = ps.length := by omega
        have F : Hid (us = (cutL S.data.toList).map (fromL [])) := Lib.hid (by rw [HUS.out, List.take_of_length_le (by rw [← HPS.out]; simp)])
        obtain ⟨ao, capo, rfl, hox⟩ := own_cells s3.own
        have hum : us.length ≤ 1099511627776 := by omega
        go_wp2_with fail
        refine (specLogValid_calls ao capo us _ hum hox).mono ?_
        rintro e w5 ⟨rfl, hb5⟩
        have s5 := s3.call hb5
        have hox5 : UpdsAt w5 ao us := UpdsAt.below hox hb5
        clear hb5 s3 hox
        cases hok : logOk us with
        | false =>
          have NOF : Hid (∀ vs, ¬ IsLog S.data.toList vs) := Lib.hid fun vs h => by
            have e : vs = us := ((isLog_spec HN.out vs).1 h).1.trans F.out.symm
            have := h.1
            rw [e, hok] at this
            cases this
          have s6 := (s5.alloc (.cells #[] 25)).madeRow 2 0 rfl (by simp [maxLen]) 0 (Nat.le_refl _)
          simp only [List.take_nil] at s6
          have F6 := Lib.hid s6.only
          clear hok s5 s6
          go_wp2_with fail
          go_ret2
          exact ⟨_, [], false, rfl, .no NOF.out, by simp, F6.out⟩
        | true =>
          have SP := specLogText_calls ao capo us w5 hum hox5
          rw [logText_ok hok] at SP
          have HOK := Lib.hid hok
          by_cases heq : logT us = S.data.toList
          · rw [show (⟨(logT us).toArray⟩ : ByteArray) = S from ByteArray.ext (Array.toList_inj.1 heq)] at SP
            have HEQ := Lib.hid heq
            have HSP := Lib.hid SP
            clear heq hok SP
            go_wp2_with fail
            refine HSP.out.mono ?_
            rintro e w6 ⟨rfl, hb6⟩
            have F6 := Lib.hid (s5.call hb6).only
            clear s5 hb6
            go_wp2_with fail
            go_ret2
            exact ⟨_, us, true, rfl, .yes ⟨HOK.out, HEQ.out⟩, by omega, F6.out⟩
          · have NOF : Hid (∀ vs, ¬ IsLog S.data.toList vs) := Lib.hid fun vs h => by
              have e : vs = us := ((isLog_spec HN.out vs).1 h).1.trans F.out.symm
              have := h.2
              rw [e] at this
              exact heq this
            obtain ⟨TT, hTT⟩ : ∃ TT : ByteArray, (⟨(logT us).toArray⟩ : ByteArray) = TT := ⟨_, rfl⟩
            have tne : (TT.toList == S.toList) = false := by
              rw [Lib.toList_data, Lib.toList_data, ← hTT]; simpa using heq
            have tne2 : TT ≠ S := fun e => heq (by rw [← e, ← hTT])
            rw [hTT] at SP
            have HSP := Lib.hid SP
            clear heq hok SP hTT
            go_wp2_with fail
            refine HSP.out.mono ?_
            rintro e w6 ⟨rfl, hb6⟩
            have s6 := ((s5.call hb6).alloc (.cells #[] 25)).madeRow 2 0 rfl (by simp [maxLen]) 0 (Nat.le_refl _)
            simp only [List.take_nil] at s6
            have F6 := Lib.hid s6.only
            clear s5 hb6 s6
            go_wp2_with fail
            go_ret2
            exact ⟨_, [], false, rfl, .no NOF.out, by simp, F6.out⟩

end Go.Proofs.YtebklbncfcdkmaaDoor
