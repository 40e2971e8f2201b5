
/-
  The walk of the function that draws a chain. No statement is proved here.
-/
import Derived.Test.YtebklbncfcdkmaaDoorC6
import Derived.Test.YtebklbncfcdkmaaDoorAp
import Derived.Test.YtebklbncfcdkmaaDoorLg
import Derived.Deep.DeepCutAuto
namespace Go.Proofs.YtebklbncfcdkmaaDoor
open Go.RowKit

def logRes (n : Nd) : Res := row (.slice n.a n.us.length n.cap) 25 2 n.us.length (ucells n.us)
/-- The logs of nodes. -/
def nds (ns : List Nd) : List Res := ns.map logRes

theorem St.perm {w0 w : World} : ∀ {rs rs' : List Res}, rs.Perm rs' → St w0 w rs → St w0 w rs' := by
  intro rs rs' h
  induction h with
  | nil => exact id
  | cons x hp ih => exact fun hs => hs.under ih (fun z hz => hp.mem_iff.2 hz)
  | swap x y l => exact fun hs => hs.at1
  | trans h1 h2 ih1 ih2 => exact fun hs => ih2 (ih1 hs)
theorem St.pull {w0 w : World} {rs : List Res} {r : Res} (h : St w0 w rs) (hr : r ∈ rs) : St w0 w [r] := by
  obtain ⟨a, b, rfl⟩ := List.append_of_mem hr
  exact (h.perm List.perm_middle).only
theorem nds_logs {w0 w : World} {rs : List Res} {ns : List Nd} (h : St w0 w rs) (hs : ∀ r ∈ nds ns, r ∈ rs) : LogsAt w ns := fun n hn => by
  have h1 := h.pull (hs (logRes n) (List.mem_map_of_mem hn))
  exact ⟨own_cellsR h1.own, own_cap h1.own⟩

theorem ucells_take (us : List Upd) (k : Nat) : (ucells us).take (k * 2) = ucells (us.take k) := by
  induction us generalizing k with
  | nil => simp [ucells]
  | cons u r ih =>
    have e : ucells (u :: r) = .int .i64 u.1 :: .int .i64 u.2 :: ucells r := rfl
    cases k with
    | zero => simp [ucells]
    | succ k =>
      rw [e, show (k + 1) * 2 = k * 2 + 1 + 1 by omega, List.take_succ_cons, List.take_succ_cons, ih, List.take_succ_cons]
      rfl

theorem ncells_done : ∀ (ns : List Nd) (i : Nat) (d : Int), i < ns.length → (ncells ns).set (i * 3 + 2) (.int .i64 d) = ncells (ns.set i { nd ns i with done := d })
  | [], _, _, h => by simp at h
  | n :: r, 0, d, _ => by simp [ncells_cons, nd]
  | n :: r, i + 1, d, h => by
    have := ncells_done r i d (by simpa using h)
    have e : nd (n :: r) (i + 1) = nd r i := by simp [nd]
    rw [ncells_cons, show (i + 1) * 3 + 2 = (i * 3 + 2) + 1 + 1 + 1 by omega, List.set_cons_succ, List.set_cons_succ, List.set_cons_succ, this, e, List.set_cons_succ, ncells_cons]
theorem ncells_id : ∀ (ns : List Nd) (i : Nat) (d : Int), i < ns.length → (ncells ns).set (i * 3) (.int .i64 d) = ncells (ns.set i { nd ns i with id := d })
  | [], _, _, h => by simp at h
  | n :: r, 0, d, _ => by simp [ncells_cons, nd]
  | n :: r, i + 1, d, h => by
    have := ncells_id r i d (by simpa using h)
    have e : nd (n :: r) (i + 1) = nd r i := by simp [nd]
    rw [ncells_cons, show (i + 1) * 3 = (i * 3) + 1 + 1 + 1 by omega, List.set_cons_succ, List.set_cons_succ, List.set_cons_succ, this, e, List.set_cons_succ, ncells_cons]
theorem nds_set {ns : List Nd} {i : Nat} {n : Nd} (h : logRes n = logRes (nd ns i)) : nds (ns.set i n) = nds ns := by
  unfold nds
  rw [List.map_set, h]
  by_cases hi : i < ns.length
  · rw [nd_eq hi]
    apply List.ext_getElem
    · simp
    · intro j h1 h2
      rw [List.getElem_set]
      split
      · rename_i e; subst e; simp
      · rfl
  · rw [List.set_eq_of_length_le (by simpa using hi)]
theorem short_set {ns : List Nd} {i : Nat} {n : Nd} {m : Nat} (h : Short ns m) (hn : n.us.length ≤ m) : Short (ns.set i n) m := fun x hx => by
  rcases List.mem_or_eq_of_mem_set hx with hx | rfl
  · exact h x hx
  · exact hn
theorem nds_snoc (ns : List Nd) (n : Nd) : nds (ns ++ [n]) = nds ns ++ [logRes n] := by simp [nds]
theorem chain_perm (x y r a b : Res) (A X : List Res) : (x :: y :: r :: a :: b :: (A ++ X)).Perm (x :: y :: a :: b :: ((A ++ [r]) ++ X)) := by
  refine List.Perm.cons _ (List.Perm.cons _ ?_)
  rw [List.append_assoc]
  refine (List.Perm.swap a r _).trans (List.Perm.cons _ ((List.Perm.swap b r _).trans (List.Perm.cons _ ?_)))
  exact List.perm_middle.symm

theorem lit3 (x y u : Int) (q : Int) (h0 : 0 ≤ q) (h1 : q < 3) : ∃ (k : Nat) (z : Int), q = (k : Int) ∧ k < 3 ∧ (z = x ∨ z = y ∨ z = u) ∧ (#[Value.int .i64 x, Value.int .i64 y, Value.int .i64 u] : Array Value)[k]? = some (.int .i64 z) := by
  rcases (show q = 0 ∨ q = 1 ∨ q = 2 by omega) with rfl | rfl | rfl
  · exact ⟨0, x, rfl, by omega, by simp, rfl⟩
  · exact ⟨1, y, rfl, by omega, by simp, rfl⟩
  · exact ⟨2, u, rfl, by omega, by simp, rfl⟩
theorem chain_end {w0 w : World} {rs A : List Res} {V R b m mm : Nat} {view : Int} {v : Value} {r d : Res} (s : St w0 w (box V #[.int .i64 view, v] 40 :: r :: rd w0 b mm :: d :: (A ++ (boxo R (.cells #[.int .i64 0, .slice none 0 0] 40 (0, 0)) :: rs)))) (hm : mm ≤ m) :
    (∀ o, w.cell? ⟨V, o, none⟩ = (#[.int .i64 view, v] : Array Value)[o]?) ∧ (∀ o, w.cell? ⟨R, o, none⟩ = (#[.int .i64 0, .slice none 0 0] : Array Value)[o]?) ∧ (∀ o, w.frozen? ⟨R, o, none⟩ = false) ∧
    (∀ o, ((w.setCell ⟨R, 0, none⟩ (.int .i64 view)).setCell ⟨R, 1, none⟩ v).cell? ⟨R, o, none⟩ = (((#[.int .i64 0, .slice none 0 0] : Array Value).setIfInBounds 0 (.int .i64 view)).setIfInBounds 1 v)[o]?) ∧
    St w0 ((w.setCell ⟨R, 0, none⟩ (.int .i64 view)).setCell ⟨R, 1, none⟩ v) (r :: rd w0 b m :: (A ++ rs)) := by
  have h1 : St w0 w (box R #[.int .i64 0, .slice none 0 0] 40 :: box V #[.int .i64 view, v] 40 :: r :: rd w0 b mm :: d :: (A ++ rs)) := s.perm (List.perm_middle (l₁ := box V #[.int .i64 view, v] 40 :: r :: rd w0 b mm :: d :: A))
  have h2 := (h1.set 0 (.int .i64 view)).set 1 v
  exact ⟨s.cells.1, h1.cells.1, h1.cells.2, h2.cells.1, (h2.drop.drop.at2.drop.at1.rdMono hm).at1⟩

set_option maxRecDepth 100000 in
set_option maxHeartbeats 8000000 in
theorem l91Chain_st {w0 w : World} {rs : List Res} (b m : Nat) (h : St w0 w (rd w0 b m :: rs)) (hm : m ≤ 600000) :
    Calls Tryd.prog 49 #[.pointer (some ⟨b, 0, none⟩)] w fun e w' => ∃ (view : Int) (v : Value) (ns : List Nd), e = .returned (.agg #[.int .i64 view, v]) ∧ 1 ≤ ns.length ∧ ns.length ≤ 5 ∧ Short ns 13 ∧ St w0 w' (row v 44 3 ns.length (ncells ns) :: rd w0 b (m + 200) :: (nds ns ++ rs)) := by
  have s0 := (h.alloc (.cells #[.int .i64 0, .slice none 0 0] 40)).at1
  have lR := h.size
  generalize hR : w.heap.size = R at *
  go_enter Tryd.func49, Tryd.ntmps49
  go_wp2_with fail
  refine (l91Log_st b m s0 (by omega)).mono ?_
  rintro e w1 ⟨v1, us, rfl, hl13, _, s1⟩
  obtain ⟨a1, cap1, rfl, _⟩ := own_cells s1.own
  clear s0
  go_upto_region 2 with fail
  go_cut [20] (fun s20 wx => ∃ c : Bool, s20 = .bool c ∧ St w0 wx (row (.slice a1 us.length cap1) 25 2 us.length (ucells us) :: rd w0 b (m + 101) :: boxo R (.cells #[.int .i64 0, .slice none 0 0] 40 (0, 0)) :: rs))
  case first =>
    go_wp2_with fail
    refine (specLogValid_calls _ _ _ _ (by omega) (own_cellsR s1.own)).mono ?_
    rintro e w2 ⟨rfl, hb⟩
    have s2 := s1.call hb
    clear s1 hb
    cases logOk us with
    | true =>
      have FIN := Lib.hid ((s2.at1.rdMono (m' := m + 101) (by omega)).at1)
      clear s2
      go_wp2_with fail
      go_meet
      exact ⟨_, rfl, FIN.out⟩
    | false =>
      go_wp2_with fail
      refine (pick_st b (m + 100) 4 s2.at1 (by omega) (by omega)).mono ?_
      rintro e w3 ⟨q, rfl, q0, q1, s3⟩
      have FIN := Lib.hid s3.at1
      clear s2 q1 s3
      go_wp2_with fail
      go_meet
      exact ⟨_, rfl, FIN.out⟩
  case rest =>
  clear s1
  obtain ⟨c, rfl, s1⟩ := hcut
  go_upto_if 20 with fail
  go_cut [3] (fun s3 wx => ∃ (a2 : Option Addr) (cap2 : Nat) (us2 : List Upd), s3 = .slice a2 us2.length cap2 ∧ us2.length ≤ 13 ∧ St w0 wx (row (.slice a2 us2.length cap2) 25 2 us2.length (ucells us2) :: rd w0 b (m + 101) :: boxo R (.cells #[.int .i64 0, .slice none 0 0] 40 (0, 0)) :: rs))
  case first =>
    cases c with
    | true =>
      have s4 := (s1.drop.alloc (.cells #[.int .i64 1, .int .i64 5, .int .i64 2, .int .i64 6] 25)).madeRow 2 2 rfl (by simp [maxLen]) 2 (Nat.le_refl _)
      have FIN := Lib.hid s4
      clear s1 s4
      go_wp2_with fail
      go_meet
      exact ⟨_, 2, [(1, 5), (2, 6)], rfl, by simp, FIN.out⟩
    | false =>
      have FIN := Lib.hid s1
      clear s1
      go_wp2_with fail
      go_meet
      exact ⟨a1, cap1, us, rfl, hl13, FIN.out⟩
  case rest =>
    obtain ⟨a2, cap2, us2, rfl, hl2, s2⟩ := hcut
    clear s1 hl13
    go_wp2_with fail
    refine (pick_st b (m + 101) 9 s2.at1 (by omega) (by omega)).mono ?_
    rintro e w3 ⟨vw, rfl, v0, v1, s3⟩
    have v2 := v1 (by omega)
    have s4 := s3.alloc (.cells #[.int .i64 vw, .slice none 0 0] 40)
    clear s2 v1
    go_wp2_with fail
    refine (pick_st b (m + 101 + 1) 5 s4.at1 (by omega) (by omega)).mono ?_
    rintro e w4 ⟨q, rfl, q0, q1, s5⟩
    have q2 := q1 (by omega)
    obtain ⟨N, hN⟩ := Int.eq_ofNat_of_zero_le (show 0 ≤ 1 + q by omega)
    have hN1 : 1 ≤ N := by omega
    have hN5 : N ≤ 5 := by omega
    have s6 := (s5.at1.nilRow 44 3).at1
    clear s3 s4 s5 q1
    go_wp2_with fail
    clear hN q0 q2
    generalize w3.heap.size = V at *
    go_loopw [6, 7] (fun hv i wr => ∃ (k h : Nat) (v : Value) (ns : List Nd), k ≤ N ∧ i = .int .i64 k ∧ hv = .int .i64 h ∧ h ≤ us2.length ∧ ns.length = k ∧ Short ns 13 ∧ St w0 wr (box V #[.int .i64 vw, v] 40 :: row v 44 3 ns.length (ncells ns) :: rd w0 b (m + 103 + 3 * k) :: row (.slice a2 us2.length cap2) 25 2 us2.length (ucells us2) :: (nds ns ++ (boxo R (.cells #[.int .i64 0, .slice none 0 0] 40 (0, 0)) :: rs)))) (fun _ i _ => N - (intOf i).toNat)
    case atStart => exact ⟨0, us2.length, _, [], Nat.zero_le _, rfl, rfl, Nat.le_refl _, rfl, (fun _ h => by cases h), s6⟩
    case round =>
      clear s6
      obtain ⟨k, h, v, ns, hk, rfl, rfl, hh, hnk, hsh, s7⟩ := hrel
      have HNK := Lib.hid hnk
      have HSH := Lib.hid hsh
      have hnl : ns.length ≤ 5 := by omega
      clear hnk hsh
      by_cases hlt : k < N
      · go_upto_region 10 with fail
        go_cut [53] (fun _ wx => ∃ (v' : Value) (n : Nd), n.us.length ≤ 13 ∧ St w0 wx (box V #[.int .i64 vw, v'] 40 :: row v' 44 3 (ns ++ [n]).length (ncells (ns ++ [n])) :: rd w0 b (m + 103 + 3 * k + 1) :: row (.slice a2 us2.length cap2) 25 2 us2.length (ucells us2) :: (nds (ns ++ [n]) ++ (boxo R (.cells #[.int .i64 0, .slice none 0 0] 40 (0, 0)) :: rs))))
        case first =>
          obtain ⟨S, hS⟩ := Mix.named (fun w' => w'.cell? ⟨V, 1, none⟩ = some v)
          have HS := Lib.hid hS
          have e0 := Mix.held_cell (fun w h => (hS w).1 h)
          clear hS
          have SO := Lib.hid (fun W rr (hr : box V #[.int .i64 vw, v] 40 ∈ rr) (s : St w0 W rr) => by
            have a0 := cell_of_heap (o := 1) (s.pull hr).boxAt
            simp at a0
            exact (HS.out W).2 a0)
          have hcap := own_cap s7.at3.own
          have s8 := s7.drew
          have i1 : (0 : Int) ≤ (h : Int) := by omega
          have i2 : (h : Int) ≤ (us2.length : Int) := by omega
          have i3 : (h : Int) ≤ (cap2 : Int) := by omega
          have i4 : (0 : Int) ≤ (k : Int) := by omega
          have i5 : (k : Int) ≤ 5 := by omega
          have hlh : (us2.take h).length = h := by simp; omega
          have HLH := Lib.hid hlh
          have CT := Lib.hid (fun W rr (hr : row (.slice a2 us2.length cap2) 25 2 us2.length (ucells us2) ∈ rr) (s : St w0 W rr) => by
            have := cells_take (own_cellsR (s.pull hr).own) (h * 2)
            rw [ucells_take] at this
            exact this)
          have ho := s7.size
          have AU := all_upd (us2.take h)
          have UL : (ucells (us2.take h)).length = h * 2 := by rw [ucells_len, hlh]
          have HUL := Lib.hid UL
          have HAU := Lib.hid AU
          have w8le := s8.size
          clear UL AU hlh s7
          refine Mix.start S 17 (by kernel_rfl) ?_
          refine Mix.take [0, 1, 2, 3, 4, 5, 9, 10, 11] 9 (by kernel_rfl) (by kernel_rfl) (by kernel_rfl) (by intro c a a' w e h; exact ⟨e.symm.trans h.1, h.2⟩) (SO.out _ _ (by simp) s8) ?_
          intro hne
          simp only [Mix.pickOps, List.filterMap_cons, List.filterMap_nil, List.getElem?_toArray, List.getElem?_cons_zero, List.getElem?_cons_succ]
          repeat (refine Mix.cons_form ?_; go_big_quiet_step (fail))
          refine wpQuiet_nil ?_
          clear hne
          refine Mix.fork (i := 6) (j := 8) (by kernel_rfl) rfl rfl rfl rfl ?_ ?_
          · go_simp
            refine (pick_st b (m + 103 + 3 * k) 9 s8.at2 (by omega) (by omega)).mono ?_
            rintro e w6 ⟨p, rfl, p0, p1, s9⟩
            have p2 := p1 (by omega)
            have s10 := (s9.alloc (.cells #[] 25)).madeRow 2 0 rfl (by simp [maxLen]) 0 (Nat.le_refl _)
            simp only [List.take_nil] at s10
            clear p1 s8
            refine And.intro (SO.out _ _ (by simp) s9) ?_
            go_simp
            refine Mix.take [7] 7 (by kernel_rfl) (by kernel_rfl) (by kernel_rfl) (by intro c a a' w e h; exact ⟨e.symm.trans h.1, h.2⟩) (SO.out _ _ (by simp) s9) ?_
            intro hne
            simp only [Mix.pickOps, List.filterMap_cons, List.filterMap_nil, List.getElem?_toArray, List.getElem?_cons_zero, List.getElem?_cons_succ]
            repeat (refine Mix.cons_form ?_; go_big_quiet_step (fail))
            refine wpQuiet_nil ?_
            clear hne
            refine Mix.step (i := 8) (by kernel_rfl) rfl rfl ?_
            go_simp
            refine And.intro (SO.out _ _ (by simp) s10) ?_
            refine Mix.step (i := 12) (by kernel_rfl) rfl rfl ?_
            refine wp_appV elem_upd _ _ (by rfl) w0.heap.size _ 0 [] (by rfl) a2 h cap2 (by rfl) (ucells (us2.take h)) HUL.out HAU.out (by omega) (by omega) (CT.out _ _ (by simp) s10) s10.own s10.size ?_
            intro vl w8 hown hgrow hat hl
            have s11 := s10.appV (grown_refl _ _) hown hgrow hat hl
            simp only [Nat.zero_add, List.nil_append] at s11
            refine And.intro (.inr (SO.out _ _ (by simp) s11)) ?_
            have s12 := s11.under St.to2 (by simp [or_left_comm, or_comm, or_assoc])
            clear hown hgrow hat hl s10 s11
            obtain ⟨al, capl, rfl, _⟩ := own_cells s12.own
            go_simp
            refine Mix.take [13] 4 (by kernel_rfl) (by kernel_rfl) (by kernel_rfl) (by intro c a a' w e h; exact ⟨e.symm.trans h.1, h.2⟩) (SO.out _ _ (by simp) s12) ?_
            intro hne
            simp only [Mix.pickOps, List.filterMap_cons, List.filterMap_nil, List.getElem?_toArray, List.getElem?_cons_zero, List.getElem?_cons_succ]
            repeat (refine Mix.cons_form ?_; go_big_quiet_step (fail))
            refine wpQuiet_nil ?_
            clear hne
            refine Mix.step (i := 14) (by kernel_rfl) rfl rfl ?_
            have s13 := s12.alloc (.cells #[.int .i64 (10 * (k : Int) + 1 + p), .slice al h capl, .int .i64 0] 44)
            go_simp
            refine And.intro (SO.out _ _ (by simp) s13) ?_
            refine Mix.step (i := 15) (by kernel_rfl) rfl rfl ?_
            refine wp_app elem_node _ _ (by rfl) w0.heap.size v ns.length (ncells ns) (by rfl) w8.heap.size 1 1 (by rfl) #[.int .i64 (10 * (k : Int) + 1 + p), .slice al h capl, .int .i64 0] 44 (0, 0) (by rfl) (by simp [Value.oneCell']) (by omega) (by omega) (by omega) (heap_alloc_new w8 _) s13.at3.own s13.size ?_
            intro gg cap3 w9 hown hgrow hat hl
            have s14 := (s13.at3.app (grown_refl _ _) hown hgrow hat hl)
            have s15 := s14.at3
            clear hown hgrow hat hl s12 s13
            refine And.intro (.inr (SO.out _ _ (by simp) s15)) ?_
            go_simp
            refine Mix.take [16] 1 (by kernel_rfl) (by kernel_rfl) (by kernel_rfl) (by intro c a a' w e h; exact ⟨e.symm.trans h.1, h.2⟩) (SO.out _ _ (by simp) s15) ?_
            intro hne
            simp only [Mix.pickOps, List.filterMap_cons, List.filterMap_nil, List.getElem?_toArray, List.getElem?_cons_zero, List.getElem?_cons_succ]
            repeat (refine Mix.cons_form ?_; go_big_quiet_step (fail))
            refine wpQuiet_nil ?_
            clear hne
            refine Mix.step (i := 17) (by kernel_rfl) rfl rfl ?_
            obtain ⟨d15, f15⟩ := s15.cells
            go_simp
            refine Mix.done (by kernel_rfl) ?_
            have s16 := s15.set 1 (.slice (some ⟨gg, 0, none⟩) (ns.length + 1) cap3)
            have s17 := s16.at2.drop
            have s18 := s17.perm (chain_perm _ _ _ _ _ _ _)
            have FIN := Lib.hid s18
            clear s14 s15 s16 s17 s18 d15 f15
            go_wp2_with fail
            go_meet
            refine ⟨.slice (some ⟨gg, 0, none⟩) (ns.length + 1) cap3, ⟨10 * (k : Int) + 1 + p, al, capl, us2.take h, 0⟩, by rw [HLH.out]; omega, ?_⟩
            have F := FIN.out
            rw [nds_snoc, ncells_append, List.length_append]
            simpa [logRes, HLH.out, ncells, box] using F
          · have s9 := (s8.alloc (.cells #[] 25)).madeRow 2 0 rfl (by simp [maxLen]) 0 (Nat.le_refl _)
            simp only [List.take_nil] at s9
            go_simp
            refine And.intro (SO.out _ _ (by simp) s9) ?_
            clear s8
            refine Mix.step (i := 6) (by kernel_rfl) rfl rfl ?_
            go_simp
            refine (pick_st b (m + 103 + 3 * k) 9 s9.at3 (by omega) (by omega)).mono ?_
            rintro e w6 ⟨p, rfl, p0, p1, s10'⟩
            have p2 := p1 (by omega)
            have s10 := s10'.at1
            clear p1 s9
            refine And.intro (SO.out _ _ (by simp) s10) ?_
            go_simp
            refine Mix.take [7] 6 (by kernel_rfl) (by kernel_rfl) (by kernel_rfl) (by intro c a a' w e h; exact ⟨e.symm.trans h.1, h.2⟩) (SO.out _ _ (by simp) s10) ?_
            intro hne
            simp only [Mix.pickOps, List.filterMap_cons, List.filterMap_nil, List.getElem?_toArray, List.getElem?_cons_zero, List.getElem?_cons_succ]
            repeat (refine Mix.cons_form ?_; go_big_quiet_step (fail))
            refine wpQuiet_nil ?_
            clear hne
            refine Mix.step (i := 12) (by kernel_rfl) rfl rfl ?_
            refine wp_appV elem_upd _ _ (by rfl) w0.heap.size _ 0 [] (by rfl) a2 h cap2 (by rfl) (ucells (us2.take h)) HUL.out HAU.out (by omega) (by omega) (CT.out _ _ (by simp) s10) s10.own s10.size ?_
            intro vl w8 hown hgrow hat hl
            have s11 := s10.appV (grown_refl _ _) hown hgrow hat hl
            simp only [Nat.zero_add, List.nil_append] at s11
            refine And.intro (.inr (SO.out _ _ (by simp) s11)) ?_
            have s12 := s11.under St.to2 (by simp [or_left_comm, or_comm, or_assoc])
            clear hown hgrow hat hl s10 s11
            obtain ⟨al, capl, rfl, _⟩ := own_cells s12.own
            go_simp
            refine Mix.take [13] 4 (by kernel_rfl) (by kernel_rfl) (by kernel_rfl) (by intro c a a' w e h; exact ⟨e.symm.trans h.1, h.2⟩) (SO.out _ _ (by simp) s12) ?_
            intro hne
            simp only [Mix.pickOps, List.filterMap_cons, List.filterMap_nil, List.getElem?_toArray, List.getElem?_cons_zero, List.getElem?_cons_succ]
            repeat (refine Mix.cons_form ?_; go_big_quiet_step (fail))
            refine wpQuiet_nil ?_
            clear hne
            refine Mix.step (i := 14) (by kernel_rfl) rfl rfl ?_
            have s13 := s12.alloc (.cells #[.int .i64 (10 * (k : Int) + 1 + p), .slice al h capl, .int .i64 0] 44)
            go_simp
            refine And.intro (SO.out _ _ (by simp) s13) ?_
            refine Mix.step (i := 15) (by kernel_rfl) rfl rfl ?_
            refine wp_app elem_node _ _ (by rfl) w0.heap.size v ns.length (ncells ns) (by rfl) w8.heap.size 1 1 (by rfl) #[.int .i64 (10 * (k : Int) + 1 + p), .slice al h capl, .int .i64 0] 44 (0, 0) (by rfl) (by simp [Value.oneCell']) (by omega) (by omega) (by omega) (heap_alloc_new w8 _) s13.at3.own s13.size ?_
            intro gg cap3 w9 hown hgrow hat hl
            have s14 := (s13.at3.app (grown_refl _ _) hown hgrow hat hl)
            have s15 := s14.at3
            clear hown hgrow hat hl s12 s13
            refine And.intro (.inr (SO.out _ _ (by simp) s15)) ?_
            go_simp
            refine Mix.take [16] 1 (by kernel_rfl) (by kernel_rfl) (by kernel_rfl) (by intro c a a' w e h; exact ⟨e.symm.trans h.1, h.2⟩) (SO.out _ _ (by simp) s15) ?_
            intro hne
            simp only [Mix.pickOps, List.filterMap_cons, List.filterMap_nil, List.getElem?_toArray, List.getElem?_cons_zero, List.getElem?_cons_succ]
            repeat (refine Mix.cons_form ?_; go_big_quiet_step (fail))
            refine wpQuiet_nil ?_
            clear hne
            refine Mix.step (i := 17) (by kernel_rfl) rfl rfl ?_
            obtain ⟨d15, f15⟩ := s15.cells
            go_simp
            refine Mix.done (by kernel_rfl) ?_
            have s16 := s15.set 1 (.slice (some ⟨gg, 0, none⟩) (ns.length + 1) cap3)
            have s17 := s16.at2.drop
            have s18 := s17.perm (chain_perm _ _ _ _ _ _ _)
            have FIN := Lib.hid s18
            clear s14 s15 s16 s17 s18 d15 f15
            go_wp2_with fail
            go_meet
            refine ⟨.slice (some ⟨gg, 0, none⟩) (ns.length + 1) cap3, ⟨10 * (k : Int) + 1 + p, al, capl, us2.take h, 0⟩, by rw [HLH.out]; omega, ?_⟩
            have F := FIN.out
            rw [nds_snoc, ncells_append, List.length_append]
            simpa [logRes, HLH.out, ncells, box] using F
        case rest =>
          obtain ⟨v', n, hn13, s8⟩ := hcut
          have HSN : Hid (Short (ns ++ [n]) 13) := Lib.hid (fun x hx => by
            rcases List.mem_append.1 hx with hx | hx
            · exact HSH.out x hx
            · simp at hx; rw [hx]; exact hn13)
          have HLN : Hid ((ns ++ [n]).length = k + 1) := Lib.hid (by simp [HNK.out])
          clear s7
          go_wp2_with fail
          refine (pick_st b (m + 103 + 3 * k + 1) 2 s8.at2 (by omega) (by omega)).mono ?_
          rintro e w5 ⟨q2, rfl, r0, r1, s9⟩
          clear s8 r1
          by_cases hq2 : q2 = 0
          · subst hq2
            go_wp2_with fail
            refine (pick_st b (m + 103 + 3 * k + 1 + 1) ((h : Int) + 1) s9 (by omega) (by omega)).mono ?_
            rintro e w6 ⟨g, rfl, g0, g1, s10⟩
            have g2 := g1 (by omega)
            obtain ⟨h', hh'⟩ := Int.eq_ofNat_of_zero_le (show 0 ≤ (h : Int) - g by omega)
            have FIN := Lib.hid s10.to2
            clear s9 g1 s10
            go_wp2_with fail
            go_roundw
            case rel => exact ⟨k + 1, h', v', ns ++ [n], hlt, by go_num, by first | rfl | rw [hh'], by omega, HLN.out, HSN.out, by rw [show m + 103 + 3 * (k + 1) = m + 103 + 3 * k + 1 + 1 + 1 by omega]; exact FIN.out⟩
            case measure => simp [intOf]; omega
          · have hq2' : (q2 == 0) = false := by simpa using hq2
            have FIN := Lib.hid (s9.rdMono (m' := m + 103 + 3 * (k + 1)) (by omega)).to2
            clear s9 hq2
            go_wp2_with fail
            go_roundw
            case rel => exact ⟨k + 1, h, v', ns ++ [n], hlt, by go_num, rfl, hh, HLN.out, HSN.out, FIN.out⟩
            case measure => simp [intOf]; omega
      · have hn1 : 1 ≤ ns.length := by rw [HNK.out]; omega
        obtain ⟨gn, capn, e1, _⟩ := s7.drop.own.form (by omega)
        cases e1
        clear HNK
        obtain ⟨L, hL⟩ : ∃ L, L = ns.length - 1 := ⟨_, rfl⟩
        have hLn : L < ns.length := by omega
        have eL : (ns.length : Int) - 1 = (L : Int) := by omega
        have j1 : (0 : Int) ≤ (L : Int) := by omega
        have j2 : (L : Int) < (ns.length : Int) := by omega
        have hcp := own_cap s7.drop.own
        obtain ⟨c7, _⟩ := s7.cells
        have hll := HSH.out.at hLn
        have d1 := s7.drop.own.cellAt (L * 3 + 1) (by omega)
        rw [(ncells_at ns L hLn).2.1] at d1
        generalize (nd ns L).us.length = l at *
        clear hL
        go_wp2_with fail
        clear d1 c7
        have s8 : St w0 wr (box V #[.int .i64 vw, .slice (some ⟨gn, 0, none⟩) ns.length capn] 40 :: row (.slice (some ⟨gn, 0, none⟩) ns.length capn) 44 3 ns.length (ncells ns) :: rd w0 b (m + 118 + 2 * (4 - L)) :: row (.slice a2 us2.length cap2) 25 2 us2.length (ucells us2) :: (nds ns ++ (boxo R (.cells #[.int .i64 0, .slice none 0 0] 40 (0, 0)) :: rs))) := (s7.at2.rdMono (by omega)).to2
        have HNS : Hid (ns.length = ns.length) := Lib.hid rfl
        generalize hn : ns.length = n at *
        clear s7 hlt
        go_loopw [9, 10] (fun dv iv wr => ∃ (i d : Int) (ns' : List Nd), -1 ≤ i ∧ i ≤ L ∧ iv = .int .i64 i ∧ dv = .int .i64 d ∧ 0 ≤ d ∧ d ≤ 13 ∧ ns'.length = n ∧ Short ns' 13 ∧ St w0 wr (box V #[.int .i64 vw, .slice (some ⟨gn, 0, none⟩) n capn] 40 :: row (.slice (some ⟨gn, 0, none⟩) n capn) 44 3 n (ncells ns') :: rd w0 b (m + 118 + 2 * (4 - i).toNat) :: row (.slice a2 us2.length cap2) 25 2 us2.length (ucells us2) :: (nds ns' ++ (boxo R (.cells #[.int .i64 0, .slice none 0 0] 40 (0, 0)) :: rs)))) (fun _ i _ => (intOf i + 1).toNat)
        case atStart => exact ⟨L, l, ns, by omega, by omega, rfl, rfl, by omega, by omega, hn, HSH.out, by rw [show (4 - (L : Int)).toNat = 4 - L by omega]; exact s8⟩
        case round =>
          clear s8 HSH hh
          obtain ⟨i, d, ns', i0, i1, rfl, rfl, hd0, hd1, hn', hsh', s9⟩ := hrel
          have HN := Lib.hid hn'
          have HSH := Lib.hid hsh'
          clear hn' hsh'
          by_cases hi : 0 ≤ i
          · obtain ⟨j, rfl⟩ := Int.eq_ofNat_of_zero_le hi
            have hjn : j < n := by omega
            have k2 : (j : Int) < (n : Int) := by omega
            obtain ⟨c9, _⟩ := s9.cells
            have lV := s9.lt.2
            have hjl : j < ns'.length := by rw [HN.out]; exact hjn
            have hlen : (ncells ns').length = n * 3 := by rw [ncells_len, HN.out]
            have d2 := s9.drop.own.cellAt (j * 3 + 2) (by omega)
            rw [(ncells_at ns' j hjl).2.2] at d2
            have f2 := s9.drop.own.frozenAt (j * 3 + 2)
            have s10 := s9.at1.rowSet (j * 3 + 2) (.int .i64 d)
            rw [ncells_done ns' j d hjl] at s10
            have ND := Lib.hid (nds_set (ns := ns') (i := j) (n := { nd ns' j with done := d }) rfl)
            rw [← ND.out] at s10
            have HS2 := Lib.hid (short_set (i := j) (n := { nd ns' j with done := d }) HSH.out (HSH.out.at hjl))
            have HL2 : Hid ((ns'.set j { nd ns' j with done := d }).length = n) := Lib.hid (by rw [List.length_set, HN.out])
            generalize ns'.set j { nd ns' j with done := d } = ns2 at *
            generalize (nd ns' j).done = dd at *
            clear s9 hlen hjl ND HSH HN
            go_wp2_with fail
            clear c9 d2 f2
            refine (pick_st b _ 2 (s10.at1.at2) (by omega) (by omega)).mono ?_
            rintro e w5 ⟨q2, rfl, r0, r1, s11⟩
            clear s10 r1
            by_cases hq2 : q2 = 0
            · subst hq2
              go_wp2_with fail
              refine (pick_st b _ (d + 1) s11 (by omega) (by omega)).mono ?_
              rintro e w6 ⟨g, rfl, g0, g1, s12⟩
              have g2 := g1 (by omega)
              have FIN := Lib.hid (s12.to2)
              clear s11 g1 s12
              go_wp2_with fail
              go_roundw
              case rel => exact ⟨(j : Int) - 1, d - g, ns2, by omega, by omega, by first | rfl | go_num, by first | rfl | go_num, by omega, by omega, HL2.out, HS2.out, by rw [show m + 118 + 2 * (4 - ((j : Int) - 1)).toNat = m + 118 + 2 * (4 - (j : Int)).toNat + 1 + 1 by omega]; exact FIN.out⟩
              case measure => first | (simp [intOf]; done) | (simp [intOf]; omega)
            · have hq2' : (q2 == 0) = false := by simpa using hq2
              have FIN := Lib.hid ((s11.rdMono (m' := m + 118 + 2 * (4 - ((j : Int) - 1)).toNat) (by omega)).to2)
              clear s11 hq2
              go_wp2_with fail
              go_roundw
              case rel => exact ⟨(j : Int) - 1, d, ns2, by omega, by omega, by first | rfl | go_num, rfl, hd0, hd1, HL2.out, HS2.out, FIN.out⟩
              case measure => first | (simp [intOf]; done) | (simp [intOf]; omega)
          · obtain rfl : i = -1 := by omega
            have s9 := (s9.at2.rdMono (m' := m + 128) (by omega)).to2
            go_wp2_with fail
            refine (pick_st b (m + 128) 40 s9.at2 (by omega) (by omega)).mono ?_
            rintro e w5 ⟨t, rfl, r0, r1, s10⟩
            have s10 := s10.to2
            clear s9 r1
            have hLl : L < ns'.length := by rw [HN.out]; exact hLn
            by_cases t0 : t = 0
            · subst t0
              obtain ⟨c10, _⟩ := s10.cells
              have hlen : (ncells ns').length = n * 3 := by rw [ncells_len, HN.out]
              have d2 := s10.drop.own.cellAt (L * 3 + 2) (by omega)
              have f2 := s10.drop.own.frozenAt (L * 3 + 2)
              rw [(ncells_at ns' L hLl).2.2] at d2
              have HSX := Lib.hid (fun x => short_set (i := L) (n := { nd ns' L with done := x }) HSH.out (HSH.out.at hLl))
              have HNX := Lib.hid (fun x : Int => show (ns'.set L { nd ns' L with done := x }).length = n by rw [List.length_set, HN.out])
              have ND := Lib.hid (fun x => nds_set (ns := ns') (i := L) (n := { nd ns' L with done := x }) rfl)
              have SET := Lib.hid (fun W (s : St w0 W (row (.slice (some ⟨gn, 0, none⟩) n capn) 44 3 n (ncells ns') :: box V #[.int .i64 vw, .slice (some ⟨gn, 0, none⟩) n capn] 40 :: rd w0 b (m + 128 + 1) :: row (.slice a2 us2.length cap2) 25 2 us2.length (ucells us2) :: (nds ns' ++ (boxo R (.cells #[.int .i64 0, .slice none 0 0] 40 (0, 0)) :: rs)))) x => by
                have q := s.rowSet (L * 3 + 2) (.int .i64 x)
                rw [ncells_done ns' L x hLl, ← ND.out x] at q
                exact q.at1)
              have s11 := s10.drew.at1
              have k0 := c10 1
              simp at k0
              obtain ⟨S, hS⟩ := Mix.named (fun w' => w'.cell? ⟨V, 1, none⟩ = some (.slice (some ⟨gn, 0, none⟩) n capn) ∧ w'.cell? ⟨gn, L * 3 + 2, none⟩ = some (.int .i64 (nd ns' L).done))
              have HS := Lib.hid hS
              have e0 := Mix.held_cell (fun w h => ((hS w).1 h).1)
              have e1 := Mix.held_cell (fun w h => ((hS w).1 h).2)
              clear hS c10 hlen
              generalize (nd ns' L).done = dd at *
              go_wp2_with fail
              refine Mix.start S 12 (by kernel_rfl) ?_
              refine Mix.take [0, 1, 2, 3, 4, 5, 6, 7, 8, 9, 10, 11] 1 (by kernel_rfl) (by kernel_rfl) (by kernel_rfl) (by intro c a a' w e h; exact ⟨e.symm.trans h.1, h.2⟩) ((HS.out _).2 ⟨k0, d2⟩) ?_
              intro hne
              simp only [Mix.pickOps, List.filterMap_cons, List.filterMap_nil, List.getElem?_toArray, List.getElem?_cons_zero, List.getElem?_cons_succ]
              repeat (refine Mix.cons_form ?_; go_big_quiet_step (fail))
              refine wpQuiet_nil ?_
              clear hne
              refine Mix.step (i := 12) (by kernel_rfl) rfl rfl ?_
              go_simp
              refine Mix.done (by kernel_rfl) ?_
              generalize wrap64 (dd - 1) = x at *
              have HNZ := Lib.hid (HNX.out x)
              have HSZ := Lib.hid (HSX.out x)
              have sZ := (SET.out _ s10.at1 x).drew
              generalize (w5.setCell ⟨gn, L * 3 + 2, none⟩ (.int .i64 x)).drew = wz at *
              clear s10 s11 k0 d2 f2 SET HNX HSX ND HS
              obtain ⟨cV, cR, fR, qR, FF⟩ := chain_end (m := m + 200) sZ (by omega)
              have FIN := Lib.hid FF
              clear sZ FF
              go_wp2_with fail
              exact bodyPost_ret (v := .agg #[.int .i64 vw, .slice (some ⟨gn, 0, none⟩) n capn]) (by simp [results, Tryd.results49, go_sem, qR]) rfl ⟨vw, _, (ns'.set L { nd ns' L with done := x }), rfl, by rw [HNZ.out]; omega, by rw [HNZ.out]; omega, HSZ.out, by rw [HNZ.out]; exact FIN.out⟩
            · have t0' : (t == 0) = false := by simpa using t0
              by_cases t1 : t = 1
              · subst t1
                obtain ⟨c10, _⟩ := s10.cells
                have hlen : (ncells ns').length = n * 3 := by rw [ncells_len, HN.out]
                have d2 := s10.drop.own.cellAt (0 * 3) (by omega)
                have d3 := s10.drop.own.cellAt (L * 3) (by omega)
                have f2 := s10.drop.own.frozenAt (L * 3)
                rw [(ncells_at ns' 0 (by omega)).1, Nat.zero_mul] at d2
                rw [(ncells_at ns' L hLl).1] at d3
                have HSX := Lib.hid (fun x => short_set (i := L) (n := { nd ns' L with id := x }) HSH.out (HSH.out.at hLl))
                have HNX := Lib.hid (fun x : Int => show (ns'.set L { nd ns' L with id := x }).length = n by rw [List.length_set, HN.out])
                have ND := Lib.hid (fun x => nds_set (ns := ns') (i := L) (n := { nd ns' L with id := x }) rfl)
                have SET := Lib.hid (fun W (s : St w0 W (row (.slice (some ⟨gn, 0, none⟩) n capn) 44 3 n (ncells ns') :: box V #[.int .i64 vw, .slice (some ⟨gn, 0, none⟩) n capn] 40 :: rd w0 b (m + 128 + 1) :: row (.slice a2 us2.length cap2) 25 2 us2.length (ucells us2) :: (nds ns' ++ (boxo R (.cells #[.int .i64 0, .slice none 0 0] 40 (0, 0)) :: rs)))) x => by
                  have q := s.rowSet (L * 3) (.int .i64 x)
                  rw [ncells_id ns' L x hLl, ← ND.out x] at q
                  exact q.at1)
                have s11 := s10.drew.at1
                have k0 := c10 1
                simp at k0
                obtain ⟨S, hS⟩ := Mix.named (fun w' => w'.cell? ⟨V, 1, none⟩ = some (.slice (some ⟨gn, 0, none⟩) n capn) ∧ w'.cell? ⟨gn, 0, none⟩ = some (.int .i64 (nd ns' 0).id))
                have HS := Lib.hid hS
                have e0 := Mix.held_cell (fun w h => ((hS w).1 h).1)
                have e1 := Mix.held_cell (fun w h => ((hS w).1 h).2)
                clear hS c10 hlen
                generalize (nd ns' 0).id = x at *
                generalize (nd ns' L).id = yy at *
                go_wp2_with fail
                refine Mix.start S 10 (by kernel_rfl) ?_
                refine Mix.take [0, 1, 2, 3, 4, 5, 6, 7, 8, 9] 1 (by kernel_rfl) (by kernel_rfl) (by kernel_rfl) (by intro c a a' w e h; exact ⟨e.symm.trans h.1, h.2⟩) ((HS.out _).2 ⟨k0, d2⟩) ?_
                intro hne
                simp only [Mix.pickOps, List.filterMap_cons, List.filterMap_nil, List.getElem?_toArray, List.getElem?_cons_zero, List.getElem?_cons_succ]
                repeat (refine Mix.cons_form ?_; go_big_quiet_step (fail))
                refine wpQuiet_nil ?_
                clear hne
                refine Mix.step (i := 10) (by kernel_rfl) rfl rfl ?_
                go_simp
                refine Mix.done (by kernel_rfl) ?_
                have HNZ := Lib.hid (HNX.out x)
                have HSZ := Lib.hid (HSX.out x)
                have sZ := (SET.out _ s10.at1 x).drew
                generalize (w5.setCell ⟨gn, L * 3, none⟩ (.int .i64 x)).drew = wz at *
                clear s10 s11 k0 d2 d3 f2 SET HNX HSX ND HS
                obtain ⟨cV, cR, fR, qR, FF⟩ := chain_end (m := m + 200) sZ (by omega)
                have FIN := Lib.hid FF
                clear sZ FF
                go_wp2_with fail
                exact bodyPost_ret (v := .agg #[.int .i64 vw, .slice (some ⟨gn, 0, none⟩) n capn]) (by simp [results, Tryd.results49, go_sem, qR]) rfl ⟨vw, _, (ns'.set L { nd ns' L with id := x }), rfl, by rw [HNZ.out]; omega, by rw [HNZ.out]; omega, HSZ.out, by rw [HNZ.out]; exact FIN.out⟩
              · have t1' : (t == 1) = false := by simpa using t1
                by_cases t2 : t = 2
                · subst t2
                  have s11 := s10.alloc (.cells #[.int .i64 (-1), .int .i64 999, .int .i64 1000] 3)
                  go_wp2_with fail
                  refine (pick_st b (m + 128 + 1) 3 s11.at3 (by omega) (by omega)).mono ?_
                  rintro e w6 ⟨g, rfl, g0, g1, s12⟩
                  have g2 := g1 (by omega)
                  obtain ⟨kk, z, rfl, hkk, _, hz⟩ := lit3 (-1) 999 1000 g g0 g2
                  have s12 := s12.to3
                  have cz : w6.cell? ⟨w5.heap.size, kk, none⟩ = some (.int .i64 z) := by rw [s12.cells.1 kk, hz]
                  have s13 := s12.drop
                  obtain ⟨c13, f13⟩ := s13.cells
                  have sZ := s13.set 0 (.int .i64 z)
                  have HNZ := HN
                  have HSZ := HSH
                  clear s10 s11 g1 s12 s13 hz
                  obtain ⟨cV, cR, fR, qR, FF⟩ := chain_end (m := m + 200) sZ (by omega)
                  have FIN := Lib.hid FF
                  clear sZ FF
                  go_wp2_with fail
                  exact bodyPost_ret (v := .agg #[.int .i64 z, .slice (some ⟨gn, 0, none⟩) n capn]) (by simp [results, Tryd.results49, go_sem, qR]) rfl ⟨z, _, ns', rfl, by rw [HNZ.out]; omega, by rw [HNZ.out]; omega, HSZ.out, by rw [HNZ.out]; exact FIN.out⟩
                · have t2' : (t == 2) = false := by simpa using t2
                  have sZ := s10
                  have HNZ := HN
                  have HSZ := HSH
                  clear s10 t0 t1 t2
                  obtain ⟨cV, cR, fR, qR, FF⟩ := chain_end (m := m + 200) sZ (by omega)
                  have FIN := Lib.hid FF
                  clear sZ FF
                  go_wp2_with fail
                  exact bodyPost_ret (v := .agg #[.int .i64 vw, .slice (some ⟨gn, 0, none⟩) n capn]) (by simp [results, Tryd.results49, go_sem, qR]) rfl ⟨vw, _, ns', rfl, by rw [HNZ.out]; omega, by rw [HNZ.out]; omega, HSZ.out, by rw [HNZ.out]; exact FIN.out⟩

end Go.Proofs.YtebklbncfcdkmaaDoor
