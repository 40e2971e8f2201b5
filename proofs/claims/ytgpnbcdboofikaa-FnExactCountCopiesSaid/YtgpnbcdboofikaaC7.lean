
/-
  The walks of CountCopies and CountSafe. No statement is proved here.
-/
import Derived.Test.YtgpnbcdboofikaaC6
import Derived.Laws.OwnMore
namespace Go.Proofs.Ytgpnbcdboofikaa
open Go.RowKit

theorem make_ints (L : Nat) (hL : L ≤ 1000000000) (w : World) : (Instr.makeSlice 27 (.int .i64 (L : Int)) (.int .i64 (L : Int))).run Try.prog w = .ok (.slice (some ⟨w.heap.size, 0, none⟩) L L) (w.alloc (.cells (Array.replicate L (Value.int .i64 0)) 3)) := by
  obtain ⟨ht, i, z, hi, hz, hsize, hby, _, _⟩ := elem_int
  have hz' : z = .int .i64 0 := by
    have h0 : ((Try.prog.info? 3).bind (·.zero)) = some (.int .i64 0) := by kernel_rfl
    rw [hi] at h0
    simp only [Option.bind_some] at h0
    rw [hz] at h0
    exact Option.some.inj h0
  subst hz'
  rw [run_make w 27 3 i _ ht hi hz .i64 .i64 L L (by omega) (by omega) (by rw [hby]; omega) (by omega), hsize]
  have e : madeCells (Value.cells (.int .i64 0)) (L * 1) = Array.replicate L (Value.int .i64 0) := by
    rw [Nat.mul_one, ← Array.toList_inj, Array.toList_replicate]
    exact toList_madeCells_one _ _
  rw [Int.toNat_natCast, e]

/-- How many of these nodes have update j. -/
def cnt (ns : List Nd) (j : Nat) : Nat := (ns.filter fun n => decide (j < n.us.length)).length
theorem cnt_nil (j : Nat) : cnt [] j = 0 := rfl
theorem cnt_cons (n : Nd) (ns : List Nd) (j : Nat) : cnt (n :: ns) j = cnt ns j + if j < n.us.length then 1 else 0 := by
  unfold cnt
  rw [List.filter_cons]
  by_cases h : j < n.us.length <;> simp [h]
theorem cnt_append (ns ms : List Nd) (j : Nat) : cnt (ns ++ ms) j = cnt ns j + cnt ms j := by simp [cnt]
theorem cnt_le (ns : List Nd) (j : Nat) : cnt ns j ≤ ns.length := List.length_filter_le _ _
/-- The values of f, L of them. -/
def vec (L : Nat) (f : Nat → Nat) : List Int := (List.range L).map fun j => (f j : Int)
theorem vec_len (L : Nat) (f : Nat → Nat) : (vec L f).length = L := by simp [vec]
theorem vec_cell {L : Nat} {f : Nat → Nat} {j : Nat} (h : j < L) : ((vec L f).map (Value.int .i64))[j]? = some (.int .i64 (f j)) := by simp [vec, h]
theorem vec_ext {L : Nat} {f g : Nat → Nat} (h : ∀ j, j < L → f j = g j) : vec L f = vec L g := by
  unfold vec
  apply List.map_congr_left
  intro j hj
  rw [h j (List.mem_range.1 hj)]
theorem vec_set {L : Nat} {f : Nat → Nat} {i : Nat} : ((vec L fun j => f j + if j < i then 1 else 0).map (Value.int .i64)).set i (.int .i64 ((f i : Int) + 1)) = (vec L fun j => f j + if j < i + 1 then 1 else 0).map (Value.int .i64) := by
  apply List.ext_getElem
  · simp [vec]
  · intro j h1 h2
    simp [vec] at h1 h2
    rw [List.getElem_set]
    by_cases hj : i = j
    · subst hj; simp [vec]
    · rw [if_neg hj]
      simp only [vec, List.getElem_map, List.getElem_range]
      congr 2
      by_cases h : j < i
      · rw [if_pos h, if_pos (by omega)]
      · rw [if_neg h, if_neg (by omega)]
theorem vec_zero (L : Nat) : vec L (fun _ => 0) = List.replicate L 0 := by
  unfold vec
  rw [List.map_const']
  simp

theorem drop_nd {ns : List Nd} {m : Nat} (h : m < ns.length) : ns.drop m = nd ns m :: ns.drop (m + 1) := by rw [nd_eq h]; exact List.drop_eq_getElem_cons h
/-- How long the stack in block G is. -/
def stackLen (w : World) (G : Nat) : Nat := match w.cell? ⟨G, 0, none⟩ with
  | some (.slice _ n _) => n
  | _ => 0
theorem stackLen_of {w : World} {G n cap : Nat} {a : Option Addr} (h : w.cell? ⟨G, 0, none⟩ = some (.slice a n cap)) : stackLen w G = n := by rw [stackLen, h]
noncomputable def copiesOf (view : Int) (ns : List Nd) : List Int := if chainOk view ns = true then vec (nd ns 0).us.length (cnt ns) else []
theorem chain_logs {view : Int} {ns : List Nd} (h : chainOk view ns = true) : ∀ i, i < ns.length → (nd ns i).us.length ≤ (nd ns 0).us.length ∧ (nd ns i).us.length ≤ 12 := by
  obtain ⟨_, _, hst, _⟩ := chainOk_iff.1 h
  intro i
  induction i with
  | zero => intro hi; exact ⟨Nat.le_refl _, (logOk_all (nodeOk_parts (hst 0 hi).1).2.1).1⟩
  | succ i ih =>
    intro hi
    have h1 := (hst (i + 1) hi).2.2 (by omega)
    exact ⟨Nat.le_trans h1.1.length_le (ih (by omega)).1, (logOk_all (nodeOk_parts (hst _ hi).1).2.1).1⟩

set_option maxHeartbeats 4000000 in
theorem countCopies_calls (view : Int) (a : Option Addr) (cap : Nat) (ns : List Nd) (w : World) (hm : ns.length ≤ 1099511627776) (hs : Short ns 1099511627776) (hx : NodesAt w a ns) :
    Calls Try.prog 15 #[.agg #[.int .i64 view, .slice a ns.length cap]] w (MadeInts w (copiesOf view ns)) := by
  have s0 := (St.start w).alloc (.cells #[.int .i64 view, .slice a ns.length cap] 25)
  cases hv : chainOk view ns with
  | false =>
    have F : Hid (copiesOf view ns = []) := Lib.hid (by rw [copiesOf, hv]; rfl)
    have HV := Lib.hid hv
    clear hv
    go_enter Try.func15, Try.ntmps15
    go_wp2_with fail
    refine (chainValid_calls _ _ _ _ _ hm hs (hx.below s0.below)).mono ?_
    rw [HV.out]
    rintro e w1 ⟨rfl, hb⟩
    have s1 := (((s0.call hb).drop).alloc (.cells #[] 3)).madeRow 1 0 rfl (by simp [maxLen]) 0 (Nat.le_refl _)
    go_wp2_with fail
    go_ret
    exact madeInts (ys := []) s1 F.out
  | true =>
    have F : Hid (copiesOf view ns = vec (nd ns 0).us.length (cnt ns)) := Lib.hid (by rw [copiesOf, hv]; rfl)
    have CL := Lib.hid (chain_logs hv)
    obtain ⟨_, ⟨hl1, hl5⟩, _, _⟩ := chainOk_iff.1 hv
    have hL12 := (CL.out 0 (by omega)).2
    have MK := make_ints (nd ns 0).us.length (by omega)
    have HV := Lib.hid hv
    clear hv
    go_enter Try.func15, Try.ntmps15
    go_wp2_with fail
    refine (chainValid_calls _ _ _ _ _ hm hs (hx.below s0.below)).mono ?_
    rw [HV.out]
    rintro e w1 ⟨rfl, hb⟩
    have s1 := s0.call hb
    obtain ⟨c1, _⟩ := s1.cells
    have l1 := s1.lt.2
    have s2 := ((s1.alloc (.cells #[.slice none 0 0] 63)).nilRow 32 3).at1
    clear s0 hb
    have HMK := Lib.hid MK
    clear MK
    go_wp2_with fail
    generalize w1.alloc (.cells #[.slice none 0 0] 63 (0, 0)) = w2 at *
    generalize w1.heap.size = G at *
    clear s1 c1
    go_loopw [19] (fun i wr => ∃ (k : Nat) (v : Value), k ≤ ns.length ∧ i = .int .i64 k ∧ St w wr (box G #[v] 63 :: row v 32 3 (ns.take k).length (ncells (ns.take k)) :: box w.heap.size #[.int .i64 view, .slice a ns.length cap] 25 :: [])) (fun i _ => ns.length - (intOf i).toNat)
    case atStart => exact ⟨0, _, Nat.zero_le _, rfl, by simpa [ncells] using s2⟩
    case round =>
      clear s2
      obtain ⟨k, v, hk, rfl, s3⟩ := hrel
      by_cases hlt : k < ns.length
      · obtain ⟨b, off, rfl, c0, c1, c2⟩ := (hx.below s3.below).cells k hlt
        have i1 : (0 : Int) ≤ (k : Int) := by omega
        have i2 : (k : Int) < (ns.length : Int) := by omega
        have SN : Hid (ns.take (k + 1) = ns.take k ++ [nd ns k]) := Lib.hid (by rw [List.take_succ_eq_append_getElem hlt, nd_eq hlt])
        have hkl : (ns.take k).length ≤ 1000 := by simp; omega
        have lG := s3.lt.2
        have s4 := (s3.alloc (.cells #[.int .i64 (nd ns k).id, .slice (nd ns k).a (nd ns k).us.length (nd ns k).cap, .int .i64 (nd ns k).done] 32)).drop
        clear s3
        go_wp2_with fail
        refine (push_st G v _ (nd ns k) s4 hkl).mono ?_
        rintro e w5 ⟨v', rfl, s5⟩
        rw [← SN.out] at s5
        clear s4
        go_wp2_with fail
        go_roundw
        case rel => exact ⟨k + 1, _, hlt, by go_num, s5⟩
        case measure => simp [intOf]; omega
      · obtain ⟨b, off, rfl, _, c1, _⟩ := (hx.below s3.below).cells 0 (by omega)
        rw [Nat.zero_mul, Nat.add_zero] at c1
        obtain ⟨x3, _⟩ := s3.at2.cells
        have MK := HMK.out
        have i0 : (0 : Int) < (ns.length : Int) := by omega
        have i0' : 0 < ns.length := by omega
        generalize hL : (nd ns 0).us.length = L at *
        have lG := s3.lt.2
        have s4 := (s3.alloc (.cells (Array.replicate L (Value.int .i64 0)) 3)).madeRow 1 L (by simp) (by unfold maxLen; omega) L (Nat.le_refl _)
        have e4 : (Array.replicate L (Value.int .i64 0)).toList.take (L * 1) = (vec L (cnt [])).map (Value.int .i64) := by
          rw [show cnt [] = fun _ => 0 from rfl, vec_zero]; simp
        rw [e4] at s4
        rw [List.take_of_length_le (by omega)] at s4
        obtain ⟨a4, cap4, rfl, _⟩ := own_cells s4.at2.own
        clear s3 e4 hL
        go_wp2_with fail
        clear MK x3 c1
        have CN0 : Hid (ns.drop ns.length = []) := Lib.hid (List.drop_of_length_le (Nat.le_refl _))
        have s6 : St w (wr.alloc (.cells (Array.replicate L (Value.int .i64 0)) 3 (0, 0))) (box G #[.slice a4 ns.length cap4] 63 :: row (.slice a4 ns.length cap4) 32 3 ns.length (ncells (ns.take ns.length)) :: row (.slice (some ⟨wr.heap.size, 0, none⟩) L L) 3 1 L ((vec L (cnt (ns.drop ns.length))).map (Value.int .i64)) :: box w.heap.size #[.int .i64 view, .slice (some ⟨b, off, none⟩) ns.length cap] 25 :: []) := by
          rw [CN0.out, List.take_length]
          exact s4.at1.under St.at1 (by simp [or_left_comm])
        generalize wr.alloc (.cells (Array.replicate L (Value.int .i64 0)) 3 (0, 0)) = wa at *
        generalize wr.heap.size = g at *
        clear s4 CN0
        go_loopw [8] (fun _ wr => ∃ m : Nat, m ≤ ns.length ∧ St w wr (box G #[.slice a4 m cap4] 63 :: row (.slice a4 m cap4) 32 3 m (ncells (ns.take m)) :: row (.slice (some ⟨g, 0, none⟩) L L) 3 1 L ((vec L (cnt (ns.drop m))).map (Value.int .i64)) :: box w.heap.size #[.int .i64 view, .slice (some ⟨b, off, none⟩) ns.length cap] 25 :: [])) (fun _ wr => stackLen wr G)
        case atStart => exact ⟨ns.length, Nat.le_refl _, s6⟩
        case round =>
          clear s6
          obtain ⟨m, hm', s7⟩ := hrel
          have M0 := Lib.hid (stackLen_of (s7.cells.1 0))
          cases m with
          | zero =>
            go_wp2_with fail
            refine (pop_none G a4 cap4 s7).mono ?_
            rintro e w8 ⟨rfl, s8⟩
            go_wp2_with fail
            go_ret
            exact madeInts (ys := vec L (cnt ns)) (by rw [vec_len]; exact (s8.alloc _).drop.drop.drop.only) F.out
          | succ m =>
            have DN := Lib.hid (drop_nd (show m < ns.length by omega))
            have hll := CL.out m (by omega)
            go_wp2_with fail
            refine (pop_some G a4 cap4 m ns (by omega) (by omega) s7).mono ?_
            rintro e w8 ⟨rfl, s8⟩
            have NV : Hid (nodeV (nd ns m) = .agg #[.int .i64 (nd ns m).id, .slice (nd ns m).a (nd ns m).us.length (nd ns m).cap, .int .i64 (nd ns m).done]) := Lib.hid rfl
            rw [NV.out]
            clear s7
            go_wp2_with fail
            have s9 := (s8.alloc (.cells #[.int .i64 (nd ns m).id, .slice (nd ns m).a (nd ns m).us.length (nd ns m).cap, .int .i64 (nd ns m).done] 32)).drop
            clear s8
            have s10 : St w (w8.alloc (.cells #[.int .i64 (nd ns m).id, .slice (nd ns m).a (nd ns m).us.length (nd ns m).cap, .int .i64 (nd ns m).done] 32 (0, 0))) (row (.slice (some ⟨g, 0, none⟩) L L) 3 1 L ((vec L fun j => cnt (ns.drop (m + 1)) j + if j < 0 then 1 else 0).map (Value.int .i64)) :: box G #[.slice a4 m cap4] 63 :: row (.slice a4 m cap4) 32 3 m (ncells (ns.take m)) :: box w.heap.size #[.int .i64 view, .slice (some ⟨b, off, none⟩) ns.length cap] 25 :: []) := by
              simpa using s9.at2
            clear s9
            have CE : Hid ((vec L fun j => cnt (ns.drop (m + 1)) j + if j < (nd ns m).us.length then 1 else 0) = vec L (cnt (ns.drop m))) := Lib.hid (vec_ext fun j _ => by rw [DN.out, cnt_cons])
            have CB := Lib.hid (fun j => Nat.le_trans (cnt_le (ns.drop (m + 1)) j) (show (ns.drop (m + 1)).length ≤ 5 by simp; omega))
            generalize w8.alloc (.cells #[.int .i64 (nd ns m).id, .slice (nd ns m).a (nd ns m).us.length (nd ns m).cap, .int .i64 (nd ns m).done] 32 (0, 0)) = w9 at *
            generalize (nd ns m).us.length = l at *
            go_loopw [45] (fun i wr => ∃ k : Nat, k ≤ l ∧ i = .int .i64 k ∧ St w wr (row (.slice (some ⟨g, 0, none⟩) L L) 3 1 L ((vec L fun j => cnt (ns.drop (m + 1)) j + if j < k then 1 else 0).map (Value.int .i64)) :: box G #[.slice a4 m cap4] 63 :: row (.slice a4 m cap4) 32 3 m (ncells (ns.take m)) :: box w.heap.size #[.int .i64 view, .slice (some ⟨b, off, none⟩) ns.length cap] 25 :: [])) (fun i _ => l - (intOf i).toNat)
            case atStart => exact ⟨0, Nat.zero_le _, rfl, s10⟩
            case round =>
              clear s10
              obtain ⟨k, hk, rfl, s11⟩ := hrel
              by_cases hlt2 : k < l
              · have ck := (s11.own.cellAt k (by omega)).trans (vec_cell (by omega))
                have fk := s11.own.frozenAt k
                have i1 : (0 : Int) ≤ (k : Int) := by omega
                have i2 : (k : Int) < (l : Int) := by omega
                have i3 : (k : Int) < (L : Int) := by omega
                have hcb := CB.out k
                have s12 := s11.rowSet k (.int .i64 ((cnt (ns.drop (m + 1)) k : Int) + 1))
                rw [vec_set] at s12
                simp only [Nat.lt_irrefl, if_false, Nat.add_zero] at ck
                have FIN := Lib.hid s12
                clear s11 s12
                generalize cnt (ns.drop (m + 1)) k = z at *
                go_wp2_with fail
                go_roundw
                case rel => exact ⟨k + 1, hlt2, by go_num, FIN.out⟩
                case measure => simp [intOf]; omega
              · obtain rfl : k = l := by omega
                rw [CE.out] at s11
                have M1 := Lib.hid (stackLen_of (s11.drop.cells.1 0))
                go_wp2_with fail
                go_roundw
                case rel => exact ⟨m, by omega, s11.at2.at2⟩
                case measure => rw [M0.out, M1.out]; omega

end Go.Proofs.Ytgpnbcdboofikaa
