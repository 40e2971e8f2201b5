
/-
  The walks of linksOf and ChainAdd, and the view of a chain that a node has joined. No statement is proved here.
-/
import Derived.Test.YtgpnbcdboofikaaC17
import Derived.Test.YtgpnbcdboofikaaC19
import Derived.Test.YtgpnbcdboofikaaMf
namespace Go.Proofs.Ytgpnbcdboofikaa
open Go.RowKit

theorem links_perm (b r : Res) (L A : List Res) : (b :: r :: (L ++ A)).Perm (b :: (L ++ (r :: A))) := List.Perm.cons _ List.perm_middle.symm

set_option maxRecDepth 100000 in
set_option maxHeartbeats 2000000 in
theorem linksOf_calls (view : Int) (a : Option Addr) (cap : Nat) (ns : List Nd) (w : World) (hm : ns.length ≤ 1000) (hs : Short ns 12) (hx : NodesAt w a ns) :
    Calls Try.prog 53 #[.agg #[.int .i64 view, .slice a ns.length cap]] w fun e w' => ∃ ms bs, e = .returned (ptr bs) ∧ keys ms = keys ns ∧ bs.length = ms.length ∧ St w w' (lnks ms bs ++ nds ms) := by
  have s0 := (St.start w).alloc (.cells #[.int .i64 view, .slice a ns.length cap] 25)
  go_enter Try.func53, Try.ntmps53
  go_wp2_with fail
  generalize w.heap.size = V at *
  go_loopw [3, 4] (fun p i wr => ∃ (k : Nat) (ms : List Nd) (bs : List Nat), k ≤ ns.length ∧ i = .int .i64 ((k : Int) - 1) ∧ p = ptr bs ∧ keys ms = keys (ns.drop k) ∧ bs.length = ms.length ∧ St w wr (lnks ms bs ++ (nds ms ++ [box V #[.int .i64 view, .slice a ns.length cap] 25]))) (fun _ i _ => (intOf i + 1).toNat)
  case atStart => exact ⟨ns.length, [], [], Nat.le_refl _, rfl, rfl, by simp, rfl, s0⟩
  case round =>
    clear s0
    obtain ⟨k, ms, bs, hk, rfl, rfl, hkey, hbl, s1⟩ := hrel
    have HK := Lib.hid hkey
    have HBL := Lib.hid hbl
    clear hkey hbl
    have x0 := s1.boxIn (V := V) (cs := #[.int .i64 view, .slice a ns.length cap]) (t := 25) (by simp) 0 rfl
    have x1 := s1.boxIn (V := V) (cs := #[.int .i64 view, .slice a ns.length cap]) (t := 25) (by simp) 1 rfl
    by_cases hlt : 0 < k
    · obtain ⟨j, rfl⟩ : ∃ j, k = j + 1 := ⟨k - 1, by omega⟩
      have ej : ((j + 1 : Nat) : Int) - 1 = (j : Int) := by omega
      rw [ej]
      obtain ⟨b, off, rfl, c0, c1, c2⟩ := (hx.below s1.below).cells j (by omega)
      have i1 : (0 : Int) ≤ (j : Int) := by omega
      have i2 : (j : Int) < (ns.length : Int) := by omega
      have DR := Lib.hid (List.drop_eq_getElem_cons (l := ns) (i := j) (by omega))
      rw [← nd_eq (by omega)] at DR
      have UX := Lib.hid (fun W (h : Below w.heap.size w W) => ((hx.2.below h).at (j := j) (by omega)).1)
      have hll := hs.at (j := j) (by omega)
      rcases hN : nd ns j with ⟨p, y, c, us, q⟩
      rw [hN] at c0 c1 c2 DR hll UX
      dsimp only at c0 c1 c2 hll UX
      obtain ⟨pv, hpv⟩ : ∃ pv, ptr bs = .pointer pv := by cases bs <;> exact ⟨_, rfl⟩
      rw [hpv]
      have HP := Lib.hid hpv
      clear hN ej hlt hpv
      go_wp2_with fail
      refine (copyNode_calls p q y c us _ (by omega) (UX.out _ s1.below)).mono ?_
      rintro e w2 ⟨gl, rfl, ss⟩
      have s2 := s1.join ss
      simp only [List.cons_append, List.nil_append] at s2
      have s3 := s2.alloc (.cells #[.int .i64 p, .slice (some ⟨gl, 0, none⟩) us.length us.length, .int .i64 q, .pointer pv] 85)
      have HF := Lib.hid (s3.perm (links_perm _ _ _ _))
      clear s1 s2 s3 ss c0 c1 c2 UX x0 x1
      go_wp2_with fail
      go_roundw
      case rel => exact ⟨j, ⟨p, some ⟨gl, 0, none⟩, us.length, us, q⟩ :: ms, w2.heap.size :: bs, by omega, by go_num, rfl, by
        have e := HK.out
        rw [DR.out]
        simp only [keys, List.map_cons] at e ⊢
        rw [e]; rfl, by simp [HBL.out], by
        show St w _ (box w2.heap.size #[.int .i64 p, .slice (some ⟨gl, 0, none⟩) us.length us.length, .int .i64 q, ptr bs] 85 :: (lnks ms bs ++ _))
        rw [HP.out]
        exact HF.out⟩
      case measure => simp [intOf] <;> omega
    · obtain rfl : k = 0 := by omega
      have FIN : Hid (St w wr (lnks ms bs ++ nds ms)) := Lib.hid (s1.take _ _ (List.append_assoc _ _ _).symm)
      have HK0 : Hid (keys ms = keys ns) := Lib.hid HK.out
      clear hlt s1
      go_wp2_with fail
      go_ret
      exact ⟨ms, bs, rfl, HK0.out, HBL.out, FIN.out⟩

/-- Links that others follow. -/
def lnksP : List Nd → List Nat → List Nat → List Res
  | n :: ns, b :: bs, tl => box b (lnkCells n (bs ++ tl)) 85 :: lnksP ns bs tl
  | _, _, _ => []
theorem lnks_app : ∀ (ms : List Nd) (bs : List Nat) (ts : List Nd) (tl : List Nat), bs.length = ms.length → lnks (ms ++ ts) (bs ++ tl) = lnksP ms bs tl ++ lnks ts tl
  | [], [], _, _, _ => rfl
  | [], _ :: _, _, _, h => by simp at h
  | _ :: _, [], _, _, h => by simp at h
  | n :: ms, b :: bs, ts, tl, h => by
    have := lnks_app ms bs ts tl (by simpa using h)
    simp only [List.cons_append, lnks, lnksP]
    rw [this]
theorem ptr_head (bs : List Nat) (b : Nat) (tl tl' : List Nat) : ptr (bs ++ b :: tl) = ptr (bs ++ b :: tl') := by cases bs <;> rfl
theorem lnksP_same : ∀ (ms : List Nd) (bs : List Nat) (b : Nat) (tl tl' : List Nat), lnksP ms bs (b :: tl) = lnksP ms bs (b :: tl')
  | [], [], _, _, _ => rfl
  | [], _ :: _, _, _, _ => rfl
  | _ :: _, [], _, _, _ => rfl
  | n :: ms, c :: bs, b, tl, tl' => by
    simp only [lnksP, lnkCells]
    rw [lnksP_same ms bs b tl tl', ptr_head bs b tl tl']
/-- The last link is given one that follows it. -/
theorem St.linkEnd2 {w0 w : World} {ms : List Nd} {bs : List Nat} {t m : Nd} {b N : Nat} {R : List Res} (h : St w0 w (lnks (ms ++ [t]) (bs ++ [b]) ++ R)) (hl : bs.length = ms.length) (hN : w.heap.size = N) :
    St w0 ((w.setCell ⟨b, 3, none⟩ (.pointer (some ⟨N, 0, none⟩))).alloc (.cells (lnkCells m []) 85)) (lnks (ms ++ [t, m]) (bs ++ [b, N]) ++ R) := by
  rw [lnks_app ms bs [t] [b] hl] at h
  rw [lnks_app ms bs [t, m] [b, N] hl, lnksP_same ms bs b [N] []]
  have h1 : St w0 w (box b (lnkCells t []) 85 :: (lnksP ms bs [b] ++ R)) := by
    refine h.perm ?_
    have := List.perm_middle (l₁ := lnksP ms bs [b]) (l₂ := R) (a := box b (lnkCells t []) 85)
    rw [List.append_assoc]
    exact this
  have h2 := (h1.set 3 (.pointer (some ⟨N, 0, none⟩))).allocAt (.cells (lnkCells m []) 85) N (by simp [hN])
  refine h2.perm ?_
  have := List.perm_append_comm_assoc [box N (lnkCells m []) 85, box b (lnkCells t [N]) 85] (lnksP ms bs [b]) R
  refine List.Perm.trans ?_ (this.trans ?_)
  · exact List.Perm.refl _
  · rw [List.append_assoc]
    exact List.Perm.append_left _ (List.Perm.swap _ _ _)
/-- The chain with a node behind the tail, with all that the tail has. -/
def joined (ns : List Nd) (x : Int) : List Nd := ns ++ [⟨x, none, 0, (nd ns (ns.length - 1)).us, (nd ns (ns.length - 1)).us.length⟩]
noncomputable def addOk (view : Int) (ns : List Nd) (x : Int) : Bool := chainOk view ns && chainOk (view + 1) (joined ns x)
noncomputable def addNum (view : Int) (ns : List Nd) (x : Int) : Int := if addOk view ns x = true then view + 1 else 0
noncomputable def addKeys (view : Int) (ns : List Nd) (x : Int) : List Key := if addOk view ns x = true then keys (joined ns x) else []
theorem joined_keys {ns ms : List Nd} {t m : Nd} {x : Int} (h : keys (ms ++ [t]) = keys ns) (h1 : m.id = x) (h2 : m.us = t.us) (h3 : m.done = t.us.length) : keys (ms ++ [t, m]) = keys (joined ns x) := by
  have hl : ms.length + 1 = ns.length := by have := congrArg List.length h; simpa [keys] using this
  have ht : (nd ns (ns.length - 1)).us = t.us := by
    rw [← (keys_nd h (ns.length - 1)).2.1, ← hl]
    simp [nd]
  have e : ms ++ [t, m] = (ms ++ [t]) ++ [m] := by simp
  rw [e, keys_append, h, joined, keys_append, ht]
  simp [keys, keyOf, h1, h2, h3]
theorem add_perm (x y f g o v : Res) (L A : List Res) : (x :: y :: (L ++ (f :: g :: (A ++ [o, v])))).Perm (x :: y :: ((A ++ [g]) ++ (o :: ([v, f] ++ L)))) := by
  refine List.Perm.cons _ (List.Perm.cons _ ?_)
  have h1 := List.perm_append_comm (l₁ := L) (l₂ := f :: g :: (A ++ [o, v]))
  refine h1.trans ?_
  have h2 : (f :: g :: (A ++ ([o, v] ++ L))).Perm (f :: (A ++ (g :: ([o, v] ++ L)))) := List.Perm.cons _ List.perm_middle.symm
  have h3 : (f :: ((A ++ [g, o, v]) ++ L)).Perm ((A ++ [g, o, v]) ++ f :: L) := List.perm_middle.symm
  refine (List.Perm.of_eq (by simp)).trans (h2.trans ((List.Perm.of_eq (by simp)).trans (h3.trans (List.Perm.of_eq (by simp)))))
theorem split_last {α : Type} {l : List α} (h : 0 < l.length) : ∃ r x, l = r ++ [x] := by
  rcases List.eq_nil_or_concat l with rfl | ⟨r, x, h⟩
  · simp at h
  · exact ⟨r, x, by simpa using h⟩

set_option maxRecDepth 100000 in
set_option maxHeartbeats 8000000 in
theorem chainAdd_calls (view : Int) (a : Option Addr) (cap : Nat) (ns : List Nd) (x : Int) (w : World) (hm : ns.length ≤ 1099511627776) (hs : Short ns 1099511627776) (hx : NodesAt w a ns) :
    Calls Try.prog 32 #[.agg #[.int .i64 view, .slice a ns.length cap], .int .i64 x] w (GaveChain w (addNum view ns x) (addKeys view ns x) (addOk view ns x)) := by
  have s0 := ((St.start w).alloc (.cells #[.int .i64 view, .slice a ns.length cap] 25)).allocAt (.cells #[.int .i64 0, .slice none 0 0] 25) (w.heap.size + 1) (by simp)
  have BAD := Lib.hid (fun (h : addOk view ns x = false) => (⟨by rw [addNum, h]; rfl, by rw [addKeys, h]; rfl, h⟩ : addNum view ns x = 0 ∧ addKeys view ns x = [] ∧ addOk view ns x = false))
  cases hv : chainOk view ns with
  | false =>
    have F := Lib.hid (BAD.out (by rw [addOk, hv]; rfl))
    have HV := Lib.hid hv
    clear hv
    go_enter Try.func32, Try.ntmps32
    go_wp2_with fail
    refine (chainValid_calls _ _ _ _ _ hm hs (hx.below s0.below)).mono ?_
    rw [HV.out]
    rintro e w1 ⟨rfl, hb⟩
    have s1 := s0.call hb
    obtain ⟨c1, f1⟩ := s1.cells
    have s2 := (s1.set 0 (.int .i64 0)).set 1 (.slice none 0 0)
    have q2 := s2.cells.1
    have FIN := Lib.hid (gaveNone s2 F.out.1 F.out.2.1 F.out.2.2)
    clear s0 s1 s2 hb
    go_wp2_with fail
    exact bodyPost_ret (v := .tuple #[.agg #[.int .i64 0, .slice none 0 0], .bool false]) (by simp [results, Try.results32, go_sem, q2]) rfl FIN.out
  | true =>
    obtain ⟨⟨hv0, hv9⟩, ⟨hl1, hl5⟩, _, _⟩ := chainOk_iff.1 hv
    have HS12 := (chain_short hv).2
    have HV := Lib.hid hv
    have DO : Hid (addOk view ns x = chainOk (view + 1) (joined ns x)) := Lib.hid (by rw [addOk, hv]; rfl)
    have DN := Lib.hid (fun (h : addOk view ns x = true) => (⟨by rw [addNum, h]; rfl, by rw [addKeys, h]; rfl, h⟩ : addNum view ns x = view + 1 ∧ addKeys view ns x = keys (joined ns x) ∧ addOk view ns x = true))
    clear hv
    go_enter Try.func32, Try.ntmps32
    go_wp2_with fail
    refine (chainValid_calls _ _ _ _ _ hm hs (hx.below s0.below)).mono ?_
    rw [HV.out]
    rintro e w1 ⟨rfl, hb⟩
    have s1 := s0.call hb
    obtain ⟨c1, _⟩ := s1.drop.cells
    clear s0 hb
    go_wp2_with fail
    refine (linksOf_calls view a cap ns _ (by omega) HS12 (hx.below s1.below)).mono ?_
    rintro e w2 ⟨ms0, bs0, rfl, hk0, hbl0, ss⟩
    have s2 := s1.join ss
    have hkl : ms0.length = ns.length := by have := congrArg List.length hk0; simpa [keys] using this
    obtain ⟨ms, ⟨p, y, c, us, q⟩, rfl⟩ := split_last (l := ms0) (by omega)
    obtain ⟨bs, b, rfl⟩ := split_last (l := bs0) (by rw [hbl0]; simp)
    rw [List.append_assoc] at s2
    have hbl : bs.length = ms.length := by simpa using hbl0
    have hms : ms.length ≤ 4 := by have : ms.length + 1 = ns.length := by simpa using hkl
                                   omega
    have LK := Lib.hid (links_of s2 hbl0 rfl)
    have eb : (bs ++ [b]).getD ((ms ++ [(⟨p, y, c, us, q⟩ : Nd)]).length - 1) 0 = b := by simp [← hbl]
    have LC := last_calls (ms ++ [(⟨p, y, c, us, q⟩ : Nd)]) (bs ++ [b]) w2 (by simp) LK.out
    rw [eb] at LC
    have UX := Lib.hid (fun W R (s : St w W R) (h : ∀ r ∈ nds (ms ++ [(⟨p, y, c, us, q⟩ : Nd)]), r ∈ R) => ((nds_logs s h) (⟨p, y, c, us, q⟩ : Nd) (by simp)).1)
    have HB := Lib.hid (show box b #[.int .i64 p, .slice y us.length c, .int .i64 q, .pointer none] 85 ∈ lnks (ms ++ [(⟨p, y, c, us, q⟩ : Nd)]) (bs ++ [b]) from by rw [lnks_app _ _ _ _ hbl]; simp [lnks, lnkCells, ptr])
    have h12 : us.length ≤ 12 := by
      have e := (keys_nd hk0 (ns.length - 1)).2.1
      have e2 : nd (ms ++ [(⟨p, y, c, us, q⟩ : Nd)]) (ns.length - 1) = (⟨p, y, c, us, q⟩ : Nd) := by
        have : ms.length + 1 = ns.length := by simpa using hkl
        rw [← this]; simp [nd]
      rw [e2] at e
      have e3 : us = (nd ns (ns.length - 1)).us := e
      rw [e3]
      exact HS12.at (by omega)
    have HSM0 := Lib.hid (show ∀ n ∈ ms ++ [(⟨p, y, c, us, q⟩ : Nd)], n.us.length ≤ 12 from fun n hn => by
      obtain ⟨i, hi, rfl⟩ := List.getElem_of_mem hn
      have e := (keys_nd hk0 i).2.1
      rw [nd_eq hi] at e
      rw [e]
      exact HS12.at (by omega))
    have JK := Lib.hid (fun m h1 h2 h3 => joined_keys (m := m) (x := x) hk0 h1 h2 h3)
    have HBL := Lib.hid hbl
    have P2 := Lib.hid (fun N => ptr_head bs b [] [N])
    generalize hpv : ptr (bs ++ [b]) = pv at *
    clear hpv hbl0 hk0 hkl eb ss s1 c1 hbl HS12 hx LK
    go_wp2_with fail
    refine LC.mono ?_
    rintro e w3 ⟨rfl, rfl⟩
    clear LC
    go_wp2_with fail
    obtain ⟨S, hS⟩ := Mix.named (fun w' => w'.cell? ⟨b, 1, none⟩ = some (.slice y us.length c))
    have HS := Lib.hid hS
    have e0 := Mix.held_cell (fun w h => ((hS w).1 h))
    clear hS
    have SO := Lib.hid (fun W R (s : St w W R) (h : ∀ r ∈ lnks (ms ++ [(⟨p, y, c, us, q⟩ : Nd)]) (bs ++ [b]), r ∈ R) => (HS.out W).2 (s.boxIn (h _ HB.out) 1 rfl))
    have s3 := s2.drew
    clear s2
    refine Mix.start S 99 (by kernel_rfl) ?_
    generalize w2.drew = w3 at *
    refine Mix.take [0, 1, 2, 3, 4, 5, 7, 8, 9, 10, 11, 12] 4 (by kernel_rfl) (by kernel_rfl) (by kernel_rfl) (by intro c a a' w e h; exact ⟨e.symm.trans h.1, h.2⟩) (SO.out _ _ s3 (by intro r hr; simp [hr])) ?_
    intro hne
    simp only [Mix.pickOps, List.filterMap_cons, List.filterMap_nil, List.getElem?_toArray, List.getElem?_cons_zero, List.getElem?_cons_succ]
    repeat (refine Mix.cons_form ?_; go_big_quiet_step (fail))
    refine wpQuiet_nil ?_
    clear hne
    refine Mix.fork (i := 6) (j := 14) (by kernel_rfl) rfl rfl rfl rfl ?_ ?_
    focus
      go_simp
      refine (copyLog_calls y us.length c us _ rfl (by omega) (UX.out _ _ s3 (by intro r hr; simp [hr]))).mono ?_
      rintro e w4 ⟨gl, rfl, ss⟩
      have s4 := s3.join ss
      simp only [List.cons_append, List.nil_append] at s4
      refine And.intro (SO.out _ _ s4 (by intro r hr; simp [hr])) ?_
      go_simp
      refine Mix.take [13] 2 (by kernel_rfl) (by kernel_rfl) (by kernel_rfl) (by intro c a a' w e h; exact ⟨e.symm.trans h.1, h.2⟩) (SO.out _ _ s4 (by intro r hr; simp [hr])) ?_
      intro hne
      simp only [Mix.pickOps, List.filterMap_cons, List.filterMap_nil, List.getElem?_toArray, List.getElem?_cons_zero, List.getElem?_cons_succ]
      repeat (refine Mix.cons_form ?_; go_big_quiet_step (fail))
      refine wpQuiet_nil ?_
      clear hne
      refine Mix.step (i := 14) (by kernel_rfl) rfl rfl ?_
      have s5 := s4.alloc (.cells #[.int .i64 0, .slice none 0 0, .int .i64 0] 32)
      go_simp
      refine And.intro (SO.out _ _ s5 (by intro r hr; simp [hr])) ?_
      go_simp
      generalize w4.alloc (.cells #[.int .i64 0, .slice none 0 0, .int .i64 0] 32 (0, 0)) = w5 at *
      generalize w4.heap.size = F at *
      clear s3 s4 ss
    rotate_left
    focus
      have s4 := s3.alloc (.cells #[.int .i64 0, .slice none 0 0, .int .i64 0] 32)
      go_simp
      refine And.intro (SO.out _ _ s4 (by intro r hr; simp [hr])) ?_
      go_simp
      generalize w3.alloc (.cells #[.int .i64 0, .slice none 0 0, .int .i64 0] 32 (0, 0)) = w4 at *
      generalize w3.heap.size = F at *
      refine Mix.step (i := 6) (by kernel_rfl) rfl rfl ?_
      go_simp
      refine (copyLog_calls y us.length c us _ rfl (by omega) (UX.out _ _ s4 (by intro r hr; simp [hr]))).mono ?_
      rintro e w5 ⟨gl, rfl, ss⟩
      have s5 := (s4.join ss).at1
      refine And.intro (SO.out _ _ s5 (by intro r hr; simp [hr])) ?_
      go_simp
      refine Mix.take [13] 1 (by kernel_rfl) (by kernel_rfl) (by kernel_rfl) (by intro c a a' w e h; exact ⟨e.symm.trans h.1, h.2⟩) (SO.out _ _ s5 (by intro r hr; simp [hr])) ?_
      intro hne
      simp only [Mix.pickOps, List.filterMap_cons, List.filterMap_nil, List.getElem?_toArray, List.getElem?_cons_zero, List.getElem?_cons_succ]
      repeat (refine Mix.cons_form ?_; go_big_quiet_step (fail))
      refine wpQuiet_nil ?_
      clear hne
      clear s3 s4 ss
    all_goals
      refine Mix.step (i := 15) (by kernel_rfl) rfl rfl ?_
      obtain ⟨c5, f5⟩ := s5.cells
      have s6 := ((s5.set 0 (.int .i64 x)).set 1 (.slice (some ⟨gl, 0, none⟩) us.length us.length)).set 2 (.int .i64 (us.length : Nat))
      go_simp
      refine And.intro (SO.out _ _ s6 (by intro r hr; simp [hr])) ?_
      refine Mix.done (by kernel_rfl) ?_
      have s7 : St w (((w5.setCell ⟨F, 0, none⟩ (.int .i64 x)).setCell ⟨F, 1, none⟩ (.slice (some ⟨gl, 0, none⟩) us.length us.length)).setCell ⟨F, 2, none⟩ (.int .i64 (us.length : Nat))) (lnks (ms ++ [(⟨p, y, c, us, q⟩ : Nd)]) (bs ++ [b]) ++ (box F #[.int .i64 x, .slice (some ⟨gl, 0, none⟩) us.length us.length, .int .i64 (us.length : Nat)] 32 :: row (.slice (some ⟨gl, 0, none⟩) us.length us.length) 91 2 us.length (ucells us) :: (nds (ms ++ [(⟨p, y, c, us, q⟩ : Nd)]) ++ [box (w.heap.size + 1) #[.int .i64 0, .slice none 0 0] 25, box w.heap.size #[.int .i64 view, .slice a ns.length cap] 25]))) := s6.perm (List.perm_append_comm_assoc [box F #[.int .i64 x, .slice (some ⟨gl, 0, none⟩) us.length us.length, .int .i64 (us.length : Nat)] 32, row (.slice (some ⟨gl, 0, none⟩) us.length us.length) 91 2 us.length (ucells us)] (lnks (ms ++ [(⟨p, y, c, us, q⟩ : Nd)]) (bs ++ [b])) (nds (ms ++ [(⟨p, y, c, us, q⟩ : Nd)]) ++ [box (w.heap.size + 1) #[.int .i64 0, .slice none 0 0] 25, box w.heap.size #[.int .i64 view, .slice a ns.length cap] 25]))
      generalize ((w5.setCell ⟨F, 0, none⟩ (.int .i64 x)).setCell ⟨F, 1, none⟩ (.slice (some ⟨gl, 0, none⟩) us.length us.length)).setCell ⟨F, 2, none⟩ (.int .i64 (us.length : Nat)) = w7 at *
      clear s5 s6 c5 f5 SO HS e0 UX
      have hb1 := (s7.pull (List.mem_append_left _ HB.out)).cells
      obtain ⟨cb, fb⟩ := hb1
      have k0 := s7.boxIn (V := F) (cs := #[.int .i64 x, .slice (some ⟨gl, 0, none⟩) us.length us.length, .int .i64 (us.length : Nat)]) (t := 32) (by simp) 0 rfl
      have k1 := s7.boxIn (V := F) (cs := #[.int .i64 x, .slice (some ⟨gl, 0, none⟩) us.length us.length, .int .i64 (us.length : Nat)]) (t := 32) (by simp) 1 rfl
      have k2 := s7.boxIn (V := F) (cs := #[.int .i64 x, .slice (some ⟨gl, 0, none⟩) us.length us.length, .int .i64 (us.length : Nat)]) (t := 32) (by simp) 2 rfl
      have lb := (s7.pull (List.mem_append_left _ HB.out)).lt.2
      have s8 := s7.linkEnd2 (m := (⟨x, some ⟨gl, 0, none⟩, us.length, us, us.length⟩ : Nd)) HBL.out rfl
      clear s7
      go_wp2_with fail
      generalize hN : w7.heap.size = N at *
      have s9 : St w ((w7.setCell ⟨b, 3, none⟩ (.pointer (some ⟨N, 0, none⟩))).alloc (.cells #[.int .i64 x, .slice (some ⟨gl, 0, none⟩) us.length us.length, .int .i64 (us.length : Nat), .pointer none] 85 (0, 0))) (lnks (ms ++ [(⟨p, y, c, us, q⟩ : Nd), (⟨x, some ⟨gl, 0, none⟩, us.length, us, us.length⟩ : Nd)]) (bs ++ [b, N]) ++ (box F #[.int .i64 x, .slice (some ⟨gl, 0, none⟩) us.length us.length, .int .i64 (us.length : Nat)] 32 :: row (.slice (some ⟨gl, 0, none⟩) us.length us.length) 91 2 us.length (ucells us) :: (nds (ms ++ [(⟨p, y, c, us, q⟩ : Nd)]) ++ [box (w.heap.size + 1) #[.int .i64 0, .slice none 0 0] 25, box w.heap.size #[.int .i64 view, .slice a ns.length cap] 25]))) := s8
      generalize (w7.setCell ⟨b, 3, none⟩ (.pointer (some ⟨N, 0, none⟩))).alloc (.cells #[.int .i64 x, .slice (some ⟨gl, 0, none⟩) us.length us.length, .int .i64 (us.length : Nat), .pointer none] 85 (0, 0)) = w9 at *
      have hbl2 : (bs ++ [b, N]).length = (ms ++ [(⟨p, y, c, us, q⟩ : Nd), (⟨x, some ⟨gl, 0, none⟩, us.length, us, us.length⟩ : Nd)]).length := by simp [HBL.out]
      have LK := links_of s9 hbl2 rfl
      have NC := Lib.hid (fun W (h : LinksAt W (ms ++ [(⟨p, y, c, us, q⟩ : Nd), (⟨x, some ⟨gl, 0, none⟩, us.length, us, us.length⟩ : Nd)]) (bs ++ [b, N])) => by
        have k := nodes_calls (ms ++ [(⟨p, y, c, us, q⟩ : Nd), (⟨x, some ⟨gl, 0, none⟩, us.length, us, us.length⟩ : Nd)]) (bs ++ [b, N]) W (by simp; omega) h
        rw [← P2.out N] at k
        exact k)
      have JM := Lib.hid (JK.out (⟨x, some ⟨gl, 0, none⟩, us.length, us, us.length⟩ : Nd) rfl rfl rfl)
      have EN := Lib.hid (show nds (ms ++ [(⟨p, y, c, us, q⟩ : Nd), (⟨x, some ⟨gl, 0, none⟩, us.length, us, us.length⟩ : Nd)]) = nds (ms ++ [(⟨p, y, c, us, q⟩ : Nd)]) ++ [row (.slice (some ⟨gl, 0, none⟩) us.length us.length) 91 2 us.length (ucells us)] by simp [nds, logRes])
      have HS2 := Lib.hid (show Short (ms ++ [(⟨p, y, c, us, q⟩ : Nd), (⟨x, some ⟨gl, 0, none⟩, us.length, us, us.length⟩ : Nd)]) 1099511627776 from fun n hn => by
        have h1 : n ∈ ms ++ [(⟨p, y, c, us, q⟩ : Nd)] ∨ n = (⟨x, some ⟨gl, 0, none⟩, us.length, us, us.length⟩ : Nd) := by
          simp only [List.mem_append, List.mem_cons, List.not_mem_nil, or_false] at hn ⊢
          rcases hn with h | h | h
          · exact .inl (.inl h)
          · exact .inl (.inr h)
          · exact .inr h
        rcases h1 with h | rfl
        · exact Nat.le_trans (HSM0.out n h) (by omega)
        · show us.length ≤ _
          omega)
      have hml : (ms ++ [(⟨p, y, c, us, q⟩ : Nd), (⟨x, some ⟨gl, 0, none⟩, us.length, us, us.length⟩ : Nd)]).length ≤ 1000 := by simp; omega
      generalize ms ++ [(⟨p, y, c, us, q⟩ : Nd), (⟨x, some ⟨gl, 0, none⟩, us.length, us, us.length⟩ : Nd)] = ms2 at *
      generalize bs ++ [b, N] = bs2 at *
      clear s8 cb fb k0 k1 k2 lb hN hbl2
      have LKH := Lib.hid (fun W R (s : St w9 W R) => NC.out W (LK.below s.below))
      obtain ⟨S, hS⟩ := Mix.named (fun w' => w'.cell? ⟨w.heap.size, 0, none⟩ = some (.int .i64 view))
      have HS := Lib.hid hS
      have e0 := Mix.held_cell (fun w h => ((hS w).1 h))
      clear hS LK NC
      have SO := Lib.hid (fun W R (s : St w W R) (h : box w.heap.size #[.int .i64 view, .slice a ns.length cap] 25 ∈ R) => (HS.out W).2 (s.boxIn h 0 rfl))
      have s10 := s9.drew
      have t10 := (St.start w9).drew
      clear s9
      refine Mix.start S 99 (by kernel_rfl) ?_
      generalize w9.drew = w10 at *
      refine Mix.take [0, 1, 2, 3] 4 (by kernel_rfl) (by kernel_rfl) (by kernel_rfl) (by intro c a a' w e h; exact ⟨e.symm.trans h.1, h.2⟩) (SO.out _ _ s10 (by simp)) ?_
      intro hne
      simp only [Mix.pickOps, List.filterMap_cons, List.filterMap_nil, List.getElem?_toArray, List.getElem?_cons_zero, List.getElem?_cons_succ]
      repeat (refine Mix.cons_form ?_; go_big_quiet_step (fail))
      refine wpQuiet_nil ?_
      clear hne
      refine Mix.fork (i := 4) (j := 6) (by kernel_rfl) rfl rfl rfl rfl ?_ ?_
      focus
        go_simp
        refine (LKH.out _ _ t10).mono ?_
        rintro e w11 ⟨v, rfl, ss⟩
        obtain ⟨a3, cap3, rfl, _⟩ := own_cells ss.own
        have s11 := s10.join ss
        simp only [List.cons_append, List.nil_append] at s11
        refine And.intro (SO.out _ _ s11 (by simp)) ?_
        go_simp
        refine Mix.take [5] 2 (by kernel_rfl) (by kernel_rfl) (by kernel_rfl) (by intro c a a' w e h; exact ⟨e.symm.trans h.1, h.2⟩) (SO.out _ _ s11 (by simp)) ?_
        intro hne
        simp only [Mix.pickOps, List.filterMap_cons, List.filterMap_nil, List.getElem?_toArray, List.getElem?_cons_zero, List.getElem?_cons_succ]
        repeat (refine Mix.cons_form ?_; go_big_quiet_step (fail))
        refine wpQuiet_nil ?_
        clear hne
        refine Mix.step (i := 6) (by kernel_rfl) rfl rfl ?_
        have s12 := s11.alloc (.cells #[.int .i64 0, .slice none 0 0] 25)
        go_simp
        refine And.intro (SO.out _ _ s12 (by simp)) ?_
        go_simp
        generalize w11.alloc (.cells #[.int .i64 0, .slice none 0 0] 25 (0, 0)) = w12 at *
        generalize w11.heap.size = C at *
        clear s10 s11 ss t10
      rotate_left
      focus
        have s11 := s10.alloc (.cells #[.int .i64 0, .slice none 0 0] 25)
        have t11 := t10.alloc (.cells #[.int .i64 0, .slice none 0 0] 25)
        go_simp
        refine And.intro (SO.out _ _ s11 (by simp)) ?_
        go_simp
        generalize w10.alloc (.cells #[.int .i64 0, .slice none 0 0] 25 (0, 0)) = w11 at *
        generalize w10.heap.size = C at *
        refine Mix.step (i := 4) (by kernel_rfl) rfl rfl ?_
        go_simp
        refine (LKH.out _ _ t11).mono ?_
        rintro e w12 ⟨v, rfl, ss⟩
        obtain ⟨a3, cap3, rfl, _⟩ := own_cells ss.own
        have s12 := (s11.join ss).at1
        refine And.intro (SO.out _ _ s12 (by simp)) ?_
        go_simp
        refine Mix.take [5] 1 (by kernel_rfl) (by kernel_rfl) (by kernel_rfl) (by intro c a a' w e h; exact ⟨e.symm.trans h.1, h.2⟩) (SO.out _ _ s12 (by simp)) ?_
        intro hne
        simp only [Mix.pickOps, List.filterMap_cons, List.filterMap_nil, List.getElem?_toArray, List.getElem?_cons_zero, List.getElem?_cons_succ]
        repeat (refine Mix.cons_form ?_; go_big_quiet_step (fail))
        refine wpQuiet_nil ?_
        clear hne
        clear s10 s11 ss t10 t11
      all_goals
        refine Mix.step (i := 7) (by kernel_rfl) rfl rfl ?_
        obtain ⟨c12, f12⟩ := s12.cells
        have s13 := (s12.set 0 (.int .i64 (view + 1))).set 1 (.slice a3 ms2.length cap3)
        go_simp
        refine And.intro (SO.out _ _ s13 (by simp)) ?_
        refine Mix.done (by kernel_rfl) ?_
        have s14 := s13.perm (add_perm _ _ _ _ _ _ _ _)
        rw [← EN.out] at s14
        generalize (w12.setCell ⟨C, 0, none⟩ (.int .i64 (view + 1))).setCell ⟨C, 1, none⟩ (.slice a3 ms2.length cap3) = w14 at *
        clear s12 s13 c12 f12 e0 SO HS
        have KO : Hid (chainOk (view + 1) ms2 = addOk view ns x) := Lib.hid (by rw [DO.out]; exact chain_keys JM.out)
        have CV := Lib.hid (fun W (h : NodesAt W a3 ms2) => chainValid_calls (view + 1) a3 cap3 ms2 W (by omega) HS2.out h)
        obtain ⟨cO, cR, fR, qR, t1, q0, t0⟩ := chain_put s14
        have HN := Lib.hid (nodes_fix s14 rfl)
        have LX := Lib.hid s14
        clear s14
        go_wp2_with fail
        refine (CV.out _ HN.out).mono ?_
        rw [KO.out]
        rintro e w15 ⟨rfl, hb15⟩
        have sG := LX.out.call hb15
        clear cO cR fR qR t1 q0 t0 CV
        obtain ⟨cO, cR, fR, qR, t1, q0, t0⟩ := chain_put sG
        cases ho : addOk view ns x with
        | true =>
          have D := Lib.hid (DN.out ho)
          have FIN := Lib.hid (gaveFix t1 D.out.1 (JM.out.trans D.out.2.1.symm) D.out.2.2)
          clear sG t1 t0 q0 hb15 ho
          go_wp2_with fail
          exact bodyPost_ret (v := .tuple #[.agg #[.int .i64 (view + 1), .slice a3 ms2.length cap3], .bool true]) (by simp [results, Try.results32, go_sem, qR]) rfl FIN.out
        | false =>
          have D := Lib.hid (BAD.out ho)
          have FIN := Lib.hid (gaveNone t0 D.out.1 D.out.2.1 D.out.2.2)
          clear sG t1 t0 qR hb15 ho
          go_wp2_with fail
          exact bodyPost_ret (v := .tuple #[.agg #[.int .i64 0, .slice none 0 0], .bool false]) (by simp [results, Try.results32, go_sem, q0]) rfl FIN.out


theorem add_next {view x : Int} {ns ms : List Nd} (h : chainOk view ns = true) (hd : addOk view ns x = true) (hk : keys ms = addKeys view ns x) :
    chainOk (view + 1) ms = true ∧ vofNum (view + 1) ms = view + 1 ∧ vofIds (view + 1) ms = nextIds view (ns.map Nd.id) [] [x] ∧ nextOk view (ns.map Nd.id) [] [x] = true ∧ nextNum view (ns.map Nd.id) [] [x] = view + 1 ∧ addNum view ns x = view + 1 := by
  have hnum : addNum view ns x = view + 1 := by rw [addNum, if_pos hd]
  rw [addKeys, if_pos hd] at hk
  rw [addOk, Bool.and_eq_true] at hd
  have hc : chainOk (view + 1) ms = true := by rw [chain_keys hk]; exact hd.2
  have hids : ms.map Nd.id = ns.map Nd.id ++ [x] := by
    rw [keys_ids hk]
    simp [joined]
  have hkept : keptIds (ns.map Nd.id) [] = ns.map Nd.id := by
    unfold keptIds
    rw [List.filter_eq_self]
    intro y _
    simp
  have hnd := (of_decide_eq_true (ids_ok hc)).2
  rw [hids] at hnd
  have hfr : freshOk (ns.map Nd.id) [x] = true := by
    have : x ∉ ns.map Nd.id := fun hx => by
      have := (List.nodup_append.1 hnd).2.2 x hx x (by simp)
      exact this rfl
    simp only [freshOk, List.all_cons, List.all_nil, Bool.and_true, Bool.not_eq_true', decide_eq_false_iff_not]
    exact this
  have hok : nextOk view (ns.map Nd.id) [] [x] = true := by
    rw [nextOk, view_ok h, hkept, hfr, ← hids, view_ok hc]
    rfl
  refine ⟨hc, by rw [vofNum, if_pos hc], ?_, hok, by rw [nextNum, if_pos hok], hnum⟩
  rw [vofIds, if_pos hc, nextIds, if_pos hok, hkept, hids]

end Go.Proofs.Ytgpnbcdboofikaa
