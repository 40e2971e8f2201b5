
/-
  The walks of the laws' own functions on chains: size, copy, equal. No statement is proved here.
-/
import Derived.Test.YtebklbncfcdkmaaDoorE6
import Derived.Test.YtebklbncfcdkmaaDoorC13
import Derived.Test.YtebklbncfcdkmaaDoorMf
namespace Go.Proofs.YtebklbncfcdkmaaDoor
open Go.RowKit

theorem keys_append' (ns ms : List Nd) : keys (ns ++ ms) = keys ns ++ keys ms := by simp [keys]
/-- How many updates the nodes hold in all. -/
def lensN (ns : List Nd) : Nat := (ns.map fun n => n.us.length).sum
theorem lensN_take {ns : List Nd} {k : Nat} (h : k < ns.length) : lensN (ns.take (k + 1)) = lensN (ns.take k) + (nd ns k).us.length := by
  unfold lensN
  rw [List.take_succ_eq_append_getElem h, List.map_append, List.sum_append, nd_eq h]
  simp
theorem lensN_le {ns : List Nd} {k : Nat} : lensN (ns.take k) ≤ lensN ns := by
  unfold lensN
  have : ns.map (fun n => n.us.length) = (ns.take k).map (fun n => n.us.length) ++ (ns.drop k).map (fun n => n.us.length) := by rw [← List.map_append, List.take_append_drop]
  rw [this, List.sum_append]
  omega

set_option maxHeartbeats 1000000 in
theorem szNodeS_calls (a : Option Addr) (cap : Nat) (ns : List Nd) (left : Int) (w : World) (h0 : 0 ≤ left) (hl : left ≤ 1048576) (hm : ns.length ≤ 9223372036854775807) (hx : NodesAt w a ns) (hu : ∀ n ∈ ns, n.us.length ≤ 9223372036854775807) :
    Calls Tryd.prog 53 #[.slice a ns.length cap, .int .i64 left] w fun e w' => ∃ v : Int, e = .returned (.int .i64 v) ∧ (v < 0 ∨ (0 ≤ v ∧ v = left - ns.length - lensN ns)) ∧ Below w.heap.size w w' := by
  by_cases hb : (ns.length : Int) ≤ left
  · have h1 : 0 ≤ left - (ns.length : Int) := by omega
    go_enter Tryd.func53, Tryd.ntmps53
    go_wp2_with fail
    go_loopw [1, 5] (fun l i wr => ∃ k : Nat, k ≤ ns.length ∧ i = .int .i64 k ∧ l = .int .i64 (left - ns.length - lensN (ns.take k)) ∧ 0 ≤ left - ns.length - lensN (ns.take k) ∧ Below w.heap.size w wr) (fun _ i _ => ns.length - (intOf i).toNat)
    case atStart => exact ⟨0, Nat.zero_le _, rfl, by simp [lensN], by simp [lensN]; omega, Below.refl _ _⟩
    case round =>
      obtain ⟨k, hk, rfl, rfl, hp, hB⟩ := hrel
      by_cases hlt : k < ns.length
      · obtain ⟨b, off, rfl, c0, c1, c2⟩ := (hx.below hB).cells k hlt
        have HL := Lib.hid (lensN_take hlt)
        have hul := hu (nd ns k) (by rw [nd_eq hlt]; exact List.getElem_mem hlt)
        have i1 : (0 : Int) ≤ (k : Int) := by omega
        have i2 : (k : Int) < (ns.length : Int) := by omega
        generalize (nd ns k).us.length = u at *
        generalize (nd ns k).id = p at *
        generalize (nd ns k).done = q at *
        have hL : left - (ns.length : Int) - (lensN (ns.take k) : Int) ≤ 1048576 := by omega
        have HT := Lib.hid (show left - (ns.length : Int) - ((lensN (ns.take (k + 1)) : Nat) : Int) = left - (ns.length : Int) - (lensN (ns.take k) : Int) - (u : Int) by rw [HL.out]; push_cast; omega)
        generalize left - (ns.length : Int) - (lensN (ns.take k) : Int) = l at *
        by_cases hul2 : (u : Int) ≤ l
        · have h2 : 0 ≤ l - (u : Int) := by omega
          go_wp2_with fail
          refine (szNode_yes _ _ _ _ _ _ _ hul2 hL).mono ?_
          rintro e w1 ⟨rfl, hb1⟩
          have hB1 := hB.trans (hb1.mono hB.size)
          clear hb1 hB c0 c1 c2
          go_wp2_with fail
          go_roundw
          case rel => exact ⟨k + 1, hlt, by go_num, by rw [HT.out], by rw [HT.out]; exact h2, hB1⟩
          case measure => simp [intOf]; omega
        · go_wp2_with fail
          refine (szNode_no _ _ _ _ _ _ _ (by omega) hp hL hul).mono ?_
          rintro e w1 ⟨rfl, hb1⟩
          have hB1 := hB.trans (hb1.mono hB.size)
          clear hb1 hB c0 c1 c2
          go_wp2_with fail
          go_ret
          exact ⟨_, rfl, .inl (by omega), hB1⟩
      · have ek : ns.take k = ns := List.take_of_length_le (by omega)
        rw [ek] at hp ⊢
        obtain ⟨l, hl2⟩ : ∃ l, left - (ns.length : Int) - (lensN ns : Int) = l := ⟨_, rfl⟩
        rw [hl2] at hp ⊢
        have HE := Lib.hid hl2
        clear hl2
        go_wp2_with fail
        go_ret
        exact ⟨_, rfl, .inr ⟨hp, HE.out.symm⟩, hB⟩
  · have h1 : left - (ns.length : Int) < 0 := by omega
    go_enter Tryd.func53, Tryd.ntmps53
    go_wp2_with fail
    go_ret
    exact ⟨_, rfl, .inl (by omega), Below.refl _ _⟩

theorem szChain_calls (view : Int) (a : Option Addr) (cap : Nat) (ns : List Nd) (left : Int) (w : World) (h0 : 0 ≤ left) (hl : left ≤ 1048576) (hm : ns.length ≤ 9223372036854775807) (hx : NodesAt w a ns) (hu : ∀ n ∈ ns, n.us.length ≤ 9223372036854775807) :
    Calls Tryd.prog 27 #[.agg #[.int .i64 view, .slice a ns.length cap], .int .i64 left] w fun e w' => ∃ v : Int, e = .returned (.int .i64 v) ∧ (v < 0 ∨ (0 ≤ v ∧ v = left - ns.length - lensN ns)) ∧ Below w.heap.size w w' := by
  have s0 := (St.start w).alloc (.cells #[.int .i64 view, .slice a ns.length cap] 48)
  go_enter Tryd.func27, Tryd.ntmps27
  go_wp2_with fail
  refine (szNodeS_calls a cap ns left _ h0 hl hm (hx.below s0.below) hu).mono ?_
  rintro e w1 ⟨v, rfl, hv, hb⟩
  have s1 := s0.call hb
  by_cases hn : v < 0
  · go_wp2_with fail
    go_ret
    exact ⟨_, rfl, .inl (by omega), s1.below⟩
  · have HV := Lib.hid hv
    clear hv
    go_wp2_with fail
    go_ret
    exact ⟨_, rfl, HV.out, s1.below⟩

/-- What a function that copies a chain's nodes hands back. -/
def MadeNodes (w : World) (ns : List Nd) (e : Ending) (w' : World) : Prop :=
  ∃ (a : Option Addr) (cap : Nat) (ms : List Nd), e = .returned (.slice a ms.length cap) ∧ keys ms = keys ns ∧ St w w' (row (.slice a ms.length cap) 44 3 ms.length (ncells ms) :: nds ms)
theorem madeNodes {w w' : World} {v : Value} {ns ms : List Nd} (h : St w w' (row v 44 3 ms.length (ncells ms) :: nds ms)) (hk : keys ms = keys ns) : MadeNodes w ns (.returned v) w' := by
  obtain ⟨a, cap, rfl, _⟩ := own_cells h.own
  exact ⟨a, cap, ms, rfl, hk, h⟩
theorem node_set {cs : List Value} {ms : List Nd} {m : Nd} {k : Nat} (h : k * 3 + 2 < cs.length) (ht : cs.take (k * 3) = ncells ms) :
    (((cs.set (k * 3) (.int .i64 m.id)).set (k * 3 + 1) (.slice m.a m.us.length m.cap)).set (k * 3 + 2) (.int .i64 m.done)).take ((k + 1) * 3) = ncells (ms ++ [m]) := by
  rw [show (k + 1) * 3 = k * 3 + 2 + 1 by omega, take_set_snoc _ _ _ (by simpa using h), take_set_snoc _ _ _ (by simp; omega), take_set_snoc _ _ _ (by omega), ht, ncells_append]
  simp [ncells]

set_option maxHeartbeats 1000000 in
theorem toNodeS_calls (a : Option Addr) (cap : Nat) (ns : List Nd) (w : World) (hm : ns.length ≤ 2097152) (hs : ∀ n ∈ ns, n.us.length ≤ 2097152) (hx : NodesAt w a ns) :
    Calls Tryd.prog 54 #[.slice a ns.length cap] w (MadeNodes w ns) := by
  obtain ⟨ht, i, z, hi, hz, hsize, hby, hzs, hsz⟩ := elem_node
  obtain ⟨wm, hr, ho, hg⟩ := run_makeSlice_full (P := Tryd.prog) w w.heap.size 38 44 i z 3 ht hi hz hsize .i64 .i64 ns.length (by omega) (by rw [hby]; omega) (by unfold maxLen; omega) (Nat.le_refl _)
  have s0 : St w wm (row (.slice (some ⟨w.heap.size, 0, none⟩) ns.length ns.length) 44 3 ns.length (madeCells z.cells (ns.length * 3)).toList :: []) :=
    (St.start w).add hg (row_own ho) (fun b hb => by cases hb; exact ho.lt _ rfl)
  generalize (madeCells z.cells (ns.length * 3)).toList = cs0 at *
  clear ho hg hi hz hsize hby hzs hsz ht
  go_enter Tryd.func54, Tryd.ntmps54
  go_wp2_with fail
  clear hr
  go_loopw [4] (fun i wr => ∃ (k : Nat) (cs : List Value) (ms : List Nd), k ≤ ns.length ∧ i = .int .i64 k ∧ cs.take (k * 3) = ncells ms ∧ keys ms = keys (ns.take k) ∧ St w wr (row (.slice (some ⟨w.heap.size, 0, none⟩) ns.length ns.length) 44 3 ns.length cs :: nds ms)) (fun i _ => ns.length - (intOf i).toNat)
  case atStart => exact ⟨0, cs0, [], Nat.zero_le _, rfl, rfl, by simp, s0⟩
  case round =>
    clear s0
    obtain ⟨k, cs, ms, hk, rfl, ht, hkey, s1⟩ := hrel
    have hl := s1.own.1
    have HK := Lib.hid hkey
    clear hkey
    by_cases hlt : k < ns.length
    · obtain ⟨b, off, rfl, c0, c1, c2⟩ := (hx.below s1.below).cells k hlt
      have UX := Lib.hid (fun W (h : Below w.heap.size w W) => ((hx.2.below h).at hlt).1)
      have hul := hs (nd ns k) (by rw [nd_eq hlt]; exact List.getElem_mem hlt)
      have HT := Lib.hid (fun m => node_set (m := m) (k := k) (by omega) ht)
      have SN : Hid (keys (ns.take (k + 1)) = keys (ns.take k) ++ [keyOf (nd ns k)]) := Lib.hid (by rw [List.take_succ_eq_append_getElem hlt, keys_append', nd_eq hlt]; rfl)
      have i1 : (0 : Int) ≤ (k : Int) := by omega
      have i2 : (k : Int) < (ns.length : Int) := by omega
      clear ht
      rcases hN : nd ns k with ⟨p, y, c, us, q⟩
      rw [hN] at c0 c1 c2 hul UX SN
      dsimp only at c0 c1 c2 hul UX
      clear hN
      go_wp2_with fail
      refine (toNode_calls p q y c us _ hul (UX.out _ s1.below)).mono ?_
      rintro e w1 ⟨b1, cap1, rfl, ho1, hb1⟩
      have s2 := (s1.fresh hb1 ho1 (Nat.le_refl _)).at1
      have cd := s2.own.cellAt (k * 3) (by omega)
      have ce := s2.own.cellAt (k * 3 + 1) (by omega)
      have cf := s2.own.cellAt (k * 3 + 2) (by omega)
      have fd := s2.own.frozenAt (k * 3)
      have fe := s2.own.frozenAt (k * 3 + 1)
      have ff := s2.own.frozenAt (k * 3 + 2)
      rw [List.getElem?_eq_getElem (by omega)] at cd ce cf
      have s3 := ((s2.rowSet (k * 3) (.int .i64 p)).rowSet (k * 3 + 1) (.slice b1 us.length cap1)).rowSet (k * 3 + 2) (.int .i64 q)
      have FIN := Lib.hid (s3.under (fun h => h.perm (List.perm_append_comm (l₁ := [logRes (⟨p, b1, cap1, us, q⟩ : Nd)]) (l₂ := nds ms))) (by intro z hz; simpa [or_comm, logRes] using hz))
      clear c0 c1 c2 s1 s2 s3 ho1 hb1 UX
      go_wp2_with fail
      go_roundw
      case rel => exact ⟨k + 1, _, ms ++ [⟨p, b1, cap1, us, q⟩], hlt, by go_num, HT.out (⟨p, b1, cap1, us, q⟩ : Nd), by rw [SN.out, ← HK.out]; simp [keys, keyOf], by
        rw [nds_snoc]; exact FIN.out⟩
      case measure => simp [intOf]; omega
    · have ek : ns.take k = ns := List.take_of_length_le (by omega)
      rw [ek] at HK
      have hml : ms.length = ns.length := by rw [← keys_len ms, HK.out, keys_len]
      rw [List.take_of_length_le (by omega)] at ht
      subst ht
      rw [← hml] at s1
      have FIN := Lib.hid (madeNodes s1 HK.out)
      rw [hml] at FIN
      clear s1 hml hl
      go_wp2_with fail
      go_ret
      exact FIN.out

theorem St.part {w0 w : World} : ∀ (rs X : List Res) {L : List Res}, L = rs ++ X → St w0 w L → St w0 w rs
  | [], _, _, rfl, h => by exact h.below
  | r :: rs, X, _, rfl, h => ⟨h.1, h.2.1, fun z hz => h.2.2.1 z (List.mem_append_left X hz), St.part rs X rfl h.2.2.2⟩
/-- What a function that copies a chain hands back. -/
def MadeChain (w : World) (view : Int) (ns : List Nd) (e : Ending) (w' : World) : Prop :=
  ∃ (a : Option Addr) (cap : Nat) (ms : List Nd), e = .returned (.agg #[.int .i64 view, .slice a ms.length cap]) ∧ keys ms = keys ns ∧ St w w' (row (.slice a ms.length cap) 44 3 ms.length (ncells ms) :: nds ms)

set_option maxHeartbeats 1000000 in
theorem toChain_calls (view : Int) (a : Option Addr) (cap : Nat) (ns : List Nd) (w : World) (hm : ns.length ≤ 2097152) (hs : ∀ n ∈ ns, n.us.length ≤ 2097152) (hx : NodesAt w a ns) :
    Calls Tryd.prog 28 #[.agg #[.int .i64 view, .slice a ns.length cap]] w (MadeChain w view ns) := by
  have s0 := ((St.start w).alloc (.cells #[.int .i64 view, .slice a ns.length cap] 48)).alloc (.cells #[.int .i64 0, .slice none 0 0] 40)
  have s1 := s0.alloc (.cells #[.int .i64 view, .slice none 0 0] 40)
  simp only [World.size_alloc] at s1
  go_enter Tryd.func28, Tryd.ntmps28
  go_wp2_with fail
  refine (toNodeS_calls _ _ _ _ hm hs (hx.below s1.below)).mono ?_
  rintro e w1 ⟨b, capb, ms, rfl, hk, ss⟩
  have s2 := (s1.join ss)
  have s3 : St w w1 (box (w.heap.size + 1 + 1) #[.int .i64 view, .slice none 0 0] 40 :: box (w.heap.size + 1) #[.int .i64 0, .slice none 0 0] 40 :: ((row (.slice b ms.length capb) 44 3 ms.length (ncells ms) :: nds ms) ++ [box w.heap.size #[.int .i64 view, .slice a ns.length cap] 48])) := s2.perm (List.perm_append_comm_assoc (row (.slice b ms.length capb) 44 3 ms.length (ncells ms) :: nds ms) [box (w.heap.size + 1 + 1) #[.int .i64 view, .slice none 0 0] 40, box (w.heap.size + 1) #[.int .i64 0, .slice none 0 0] 40] [box w.heap.size #[.int .i64 view, .slice a ns.length cap] 48])
  obtain ⟨c3, f3⟩ := s3.cells
  obtain ⟨d3, g3⟩ := s3.drop.cells
  have x0 := s3.boxIn (V := w.heap.size) (cs := #[.int .i64 view, .slice a ns.length cap]) (t := 48) (by simp) 0 rfl
  have x1 := s3.boxIn (V := w.heap.size) (cs := #[.int .i64 view, .slice a ns.length cap]) (t := 48) (by simp) 1 rfl
  have n2 := s3.ne
  have n2' := s3.at1.ne
  have s4 := (s3.set 1 (.slice b ms.length capb)).at1
  have s5 := (s4.set 0 (.int .i64 view)).set 1 (.slice b ms.length capb)
  have q5 := s5.cells.1
  have FIN := Lib.hid (St.part _ _ rfl s5.drop.drop)
  clear s0 s1 s2 s3 s4 s5 ss
  go_wp2_with fail
  exact bodyPost_ret (v := .agg #[.int .i64 view, .slice b ms.length capb]) (by simp [results, Tryd.results28, go_sem, q5]) rfl ⟨b, capb, ms, rfl, hk, FIN.out⟩

set_option maxHeartbeats 2000000 in
theorem eqNodeS_eq (a a' : Option Addr) (cap cap' : Nat) (ms ms' : List Nd) (w : World) (hm : ms.length ≤ 1099511627776) (hu : Short ms 1099511627776) (hk : keys ms = keys ms') (hx : NodesAt w a ms) (hy : NodesAt w a' ms') :
    Calls Tryd.prog 55 #[.slice a ms.length cap, .slice a' ms'.length cap'] w fun e w' => e = .returned (.bool true) ∧ Below w.heap.size w w' := by
  have hl : ms'.length = ms.length := by rw [← keys_len ms', ← hk, keys_len]
  rw [hl]
  have HLL := Lib.hid hl
  have HK := Lib.hid (keys_nd hk)
  clear hl hk
  go_enter Tryd.func55, Tryd.ntmps55
  go_wp2_with fail
  go_loopw [5] (fun i wr => ∃ k : Nat, k ≤ ms.length ∧ i = .int .i64 k ∧ Below w.heap.size w wr) (fun i _ => ms.length - (intOf i).toNat)
  case atStart => exact ⟨0, Nat.zero_le _, rfl, Below.refl _ _⟩
  case round =>
    obtain ⟨k, hk, rfl, hB⟩ := hrel
    by_cases hlt : k < ms.length
    · obtain ⟨b, off, rfl, c0, c1, c2⟩ := (hx.below hB).cells k hlt
      obtain ⟨b', off', rfl, d0, d1, d2⟩ := (hy.below hB).cells k (by rw [HLL.out]; exact hlt)
      obtain ⟨e1, e2, e3⟩ := HK.out k
      rw [← e1] at d0
      rw [← e2] at d1
      rw [← e3] at d2
      have hul := hu.at hlt
      have U1 := Lib.hid (fun W (h : Below w.heap.size w W) => ((hx.2.below h).at hlt).1)
      have U2 := Lib.hid (fun W (h : Below w.heap.size w W) => ((hy.2.below h).at (j := k) (by rw [HLL.out]; exact hlt)).1)
      rw [← e2] at U2
      have i1 : (0 : Int) ≤ (k : Int) := by omega
      have i2 : (k : Int) < (ms.length : Int) := by omega
      generalize (nd ms' k).a = y' at *
      generalize (nd ms' k).cap = c' at *
      clear e1 e2 e3
      rcases hN : nd ms k with ⟨p, y, c, us, q⟩
      rw [hN] at c0 c1 c2 d0 d1 d2 hul U1 U2
      dsimp only at c0 c1 c2 d0 d1 d2 hul U1 U2
      clear hN
      have g0 := grow_cell c0
      have g1 := grow_cell c1
      have g2 := grow_cell c2
      have g3 := grow_cell d0
      have g4 := grow_cell d1
      have g5 := grow_cell d2
      have HG := Lib.hid (fun x : Grown wr => hB.trans ((grow_below x).mono hB.size))
      have EN := Lib.hid (fun x : Grown wr => eqNode_eq y y' c c' p q us (grow wr x) hul (U1.out _ (HG.out x)) (U2.out _ (HG.out x)))
      clear c0 c1 c2 d0 d1 d2
      go_wp2_with fail
      refine wp_region_grow (by kernel_rfl) (by kernel_rfl) ?_
      repeat (go_big_quiet_step (((go_at_call 76; exact Calls.grow_of (EN.out _)))))
      refine wpQuiet_nil ?_
      rintro _ ⟨x, rfl⟩
      go_wp2_with fail
      go_roundw
      case rel => exact ⟨k + 1, hlt, by go_num, HG.out x⟩
      case measure => simp [intOf]; omega
    · go_wp2_with fail
      go_ret
      exact ⟨rfl, hB⟩

theorem eqChain_eq (view : Int) (a a' : Option Addr) (cap cap' : Nat) (ms ms' : List Nd) (w : World) (hm : ms.length ≤ 1099511627776) (hu : Short ms 1099511627776) (hk : keys ms = keys ms') (hx : NodesAt w a ms) (hy : NodesAt w a' ms') :
    Calls Tryd.prog 29 #[.agg #[.int .i64 view, .slice a ms.length cap], .agg #[.int .i64 view, .slice a' ms'.length cap']] w fun e w' => e = .returned (.bool true) ∧ Below w.heap.size w w' := by
  have s0 := ((St.start w).alloc (.cells #[.int .i64 view, .slice a ms.length cap] 40)).alloc (.cells #[.int .i64 view, .slice a' ms'.length cap'] 40)
  simp only [World.size_alloc] at s0
  go_enter Tryd.func29, Tryd.ntmps29
  go_wp2_with fail
  refine (eqNodeS_eq _ _ _ _ ms ms' _ hm hu hk (hx.below s0.below) (hy.below s0.below)).mono ?_
  rintro e w1 ⟨rfl, hb⟩
  have s1 := s0.call hb
  go_wp2_with fail
  go_ret
  exact ⟨rfl, s1.below⟩

end Go.Proofs.YtebklbncfcdkmaaDoor
