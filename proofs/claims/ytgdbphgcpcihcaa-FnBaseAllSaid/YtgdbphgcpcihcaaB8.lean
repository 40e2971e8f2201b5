/-
  The walk of the reference's BaseOf. No statement is proved here.
-/
import Derived.Test.YtgdbphgcpcihcaaB7
import Derived.Test.YtgdbphgcpcihcaaAp
import Derived.Test.YtgdbphgcpcihcaaFr
namespace Go.Proofs.Ytgdbphgcpcihcaa
open Go.RowKit

theorem own_block {w : World} {base : Nat} {e : TypeId} {size n : Nat} {v : Value} {xs : List Value} (h : w.ownsRow base e size v n xs) : ∀ b, v.ownBlock = some b → ∃ cur, w.heap[b]? = some (.cells cur e (0, 0)) := by
  intro b hb
  rcases h.2 with ⟨rfl, _⟩ | ⟨g, cap, cur, rfl, _, hg, _⟩
  · cases hb
  · cases hb; exact ⟨cur, hg⟩
theorem own_other {w w' : World} {base : Nat} {e e' : TypeId} {size n b : Nat} {v : Value} {xs : List Value} {cs : Array Value} {fr : Nat × Nat} (h : w.ownsRow base e size v n xs) (hg : w.grownBy w' (some b)) (hb : w.heap[b]? = some (.cells cs e' fr)) (he : e ≠ e') : w'.ownsRow base e size v n xs := by
  refine h.kept hg ?_
  cases hv : v.ownBlock with
  | none => exact .inl rfl
  | some g =>
    refine .inr ?_
    intro e0
    cases e0
    obtain ⟨cur, hc⟩ := own_block h _ hv
    rw [hb] at hc
    cases hc
    exact he rfl
theorem own_apart {w : World} {base base' : Nat} {e e' : TypeId} {size size' n n' : Nat} {v v' : Value} {xs xs' : List Value} (h : w.ownsRow base e size v n xs) (h' : w.ownsRow base' e' size' v' n' xs') (he : e ≠ e') : v.ownBlock = none ∨ v.ownBlock ≠ v'.ownBlock := by
  cases hv : v.ownBlock with
  | none => exact .inl rfl
  | some g =>
    refine .inr fun e0 => ?_
    obtain ⟨cur, hc⟩ := own_block h g hv
    obtain ⟨cur', hc'⟩ := own_block h' g e0.symm
    rw [hc] at hc'
    cases hc'
    exact he rfl

set_option maxHeartbeats 4000000 in
set_option maxRecDepth 100000 in
theorem specBaseOf_calls (a : Option Addr) (cap : Nat) (nid done : Int) (us : List Upd) (w : World) (hm : us.length ≤ 1099511627776) (hc : us.length ≤ cap) (hx : UpdsAt w a us) :
    Calls Try.prog 13 #[.agg #[.int .i64 nid, .slice a us.length cap, .int .i64 done]] w (GaveBase w nid us done) := by
  have s0 := (((St.start w).alloc (.cells #[.int .i64 nid, .slice a us.length cap, .int .i64 done] 25)).alloc (.cells #[.int .i64 0, .slice none 0 0] 29)).at1
  simp only [World.size_alloc] at s0
  cases hv : nodeOk nid us done with
  | false =>
    have F := Lib.hid (fun v g W h1 h2 => gave_bad (w := w) (w' := W) (v := v) (g := g) hv h1 h2)
    have HV := Lib.hid hv
    clear hv
    go_enter Try.func13, Try.ntmps13
    go_wp2_with fail
    refine (specNodeValid_calls _ _ _ _ _ _ hm (hx.below s0.below)).mono ?_
    rw [HV.out]
    rintro e w1 ⟨rfl, hb⟩
    have s1 := (s0.call hb).at1
    obtain ⟨d1, f1⟩ := s1.cells
    have lr := s1.lt.2
    go_wp2_with fail
    have s3 := ((((s1.set 0 (.int .i64 0)).set 1 (.slice none 0 0)).alloc (.cells #[] 67)).madeRow 2 0 rfl (by simp [maxLen]) 0 (Nat.le_refl _))
    simp only [World.size_setCell] at s3
    have d5 := s3.drop.cells.1
    exact bodyPost_ret (v := .tuple #[.agg #[.int .i64 0, .slice none 0 0], .slice (some ⟨w1.heap.size, 0, none⟩) 0 0, .bool false]) (by simp [results, Try.results13, go_sem, d5]) rfl (F.out _ _ _ rfl s3.only)
  | true =>
    obtain ⟨_, hlg, hd0, hd1⟩ := nodeOk_parts hv
    have hl12 := (logOk_all hlg).1
    obtain ⟨k, rfl⟩ := Int.eq_ofNat_of_zero_le hd0
    have hk : k ≤ us.length := by omega
    have E1 : baseMany nid us k = k := by rw [baseMany, hv]; rfl
    have E2 : baseState nid us k = runTo empty5 us k := by rw [baseState, hv]; exact stateAt_yes hlg hk
    have E3 : pendingOf nid us k = us.drop k := by rw [pendingOf, hv]; rfl
    unfold GaveBase
    rw [E1, E2, E3, hv]
    have HV := Lib.hid hv
    have hsl := run_from (P := Try.prog) 23 67 2 a us.length cap k Try.underlying23 info_upd2 hk
    have HXD := Lib.hid (fun W (h : UpdsAt W a us) => upds_from h cap k hc)
    have HDL := Lib.hid (show us.length - k = (us.drop k).length by simp)
    have L2 := Lib.hid (fun W (h : UpdsAt W a us) => l2At_calls a cap us k W hm h hlg hk)
    unfold MadeInts at L2
    clear hv E1 E2 E3 hlg hd0 hd1
    generalize runTo empty5 us k = st at *
    generalize us.drop k = pd at *
    generalize cutAt a cap k 2 = a' at *
    go_enter Try.func13, Try.ntmps13
    go_wp2_with fail
    refine (specNodeValid_calls _ _ _ _ _ _ hm (hx.below s0.below)).mono ?_
    rw [HV.out]
    rintro e w2 ⟨rfl, hb⟩
    have s2 := s0.call hb
    have hx2 := hx.below s2.below
    clear s0 hb
    go_wp2_with fail
    have RB := s2.at1.lt.2
    have PB := s2.lt.2
    refine Free.wp_region_puts [6, 14, 15]
      (fun c _ w' => (c ≤ 2 → w2.grownBy w' none) ∧ (c = 3 → ∃ a3 cap3, w2.grownBy w' (some (w.heap.size + 1)) ∧ w'.heap[w.heap.size + 1]? = some (.cells #[.int .i64 k, .slice a3 st.length cap3] 29 (0, 0)) ∧ w'.ownsRow w2.heap.size 3 1 (.slice a3 st.length cap3) st.length (st.map (Value.int .i64))))
      (fun i w1 w2 => (i ≠ 14 → i ≠ 15 → w1.grownBy w2 none) ∧ (i = 14 → ∃ b cs, w1.grownBy w2 (some b) ∧ w1.heap[b]? = some (.cells cs 67 (0, 0))) ∧ (i = 15 → w1.grownBy w2 (some (w.heap.size + 1))))
      (fun j c v w' => match j with
        | 0 | 4 | 11 => v = .pointer (some ⟨w.heap.size, 2, none⟩)
        | 1 | 5 | 12 => v = .int .i64 k
        | 2 | 9 => v = .pointer (some ⟨w.heap.size, 1, none⟩)
        | 3 | 10 => v = .slice a us.length cap
        | 6 => ∃ a3 cap3, v = .slice a3 st.length cap3 ∧ (c ≤ 2 → w'.ownsRow w2.heap.size 3 1 (.slice a3 st.length cap3) st.length (st.map (Value.int .i64)))
        | 7 => ∃ a3 cap3, v = .agg #[.int .i64 k, .slice a3 st.length cap3] ∧ (c ≤ 2 → w'.ownsRow w2.heap.size 3 1 (.slice a3 st.length cap3) st.length (st.map (Value.int .i64)))
        | 8 => ∃ b, v = .slice (some ⟨b, 0, none⟩) 0 0 ∧ (c ≤ 1 → w'.ownsRow w2.heap.size 67 2 (.slice (some ⟨b, 0, none⟩) 0 0) 0 [])
        | 13 => v = .slice a' (us.length - k) (cap - k)
        | 14 | 16 => ∃ a4 cap4, v = .slice a4 pd.length cap4 ∧ w'.ownsRow w2.heap.size 67 2 (.slice a4 pd.length cap4) pd.length (ucells pd)
        | 17 => v = .bool true
        | _ => True)
      (by kernel_rfl) (by kernel_rfl) (by kernel_rfl) ?_ ?_ ?_ ?_
    · intro i j n n' u w1 w2 hph hij haf hR
      have hph' : (i ≠ 6 ∧ i ≠ 14 ∧ i ≠ 15 ∧ n' = n) ∨ (i = 6 ∧ n = 0 ∧ n' = 1) ∨ (i = 14 ∧ n = 1 ∧ n' = 2) ∨ (i = 15 ∧ n = 2 ∧ n' = 3) := by
        rcases hph with ⟨h1, h2⟩ | ⟨h1, h2⟩
        · match n, h1 with
          | 0, h1 => simp at h1; omega
          | 1, h1 => simp at h1; omega
          | 2, h1 => simp at h1; omega
          | n + 3, h1 => simp at h1
        · simp at h1; omega
      have hownI : ∀ B v k ys, w1.ownsRow B 3 1 v k ys → i ≠ 15 → w2.ownsRow B 3 1 v k ys := fun B v k ys h e => by
        by_cases e14 : i = 14
        · obtain ⟨b, cs, h4, h5⟩ := hR.2.1 e14
          exact own_other h h4 h5 (by decide)
        · exact h.kept (hR.1 e14 e) (by cases v.ownBlock <;> simp)
      have hownU : ∀ B v k ys, w1.ownsRow B 67 2 v k ys → w.heap.size + 1 < B → i ≠ 14 → w2.ownsRow B 67 2 v k ys := fun B v k ys h hB e => by
        by_cases e15 : i = 15
        · refine h.kept (hR.2.2 e15) ?_
          cases hv : v.ownBlock with
          | none => exact .inl rfl
          | some g =>
            refine .inr fun e0 => ?_
            cases e0
            have := (h.lt _ hv).1
            omega
        · exact h.kept (hR.1 e e15) (by cases v.ownBlock <;> simp)
      match j with
      | 0 | 1 | 2 | 3 | 4 | 5 | 9 | 10 | 11 | 12 | 13 | 15 | 17 => exact id
      | 6 => rintro ⟨b, c, h1, h2⟩; exact ⟨b, c, h1, fun e => hownI _ _ _ _ (h2 (by omega)) (by omega)⟩
      | 7 => rintro ⟨b, c, h1, h2⟩; exact ⟨b, c, h1, fun e => hownI _ _ _ _ (h2 (by omega)) (by omega)⟩
      | 8 => rintro ⟨b, h1, h2⟩; exact ⟨b, h1, fun e => hownU _ _ _ _ (h2 (by omega)) RB (by omega)⟩
      | 14 => rintro ⟨b, c, h1, h2⟩; exact ⟨b, c, h1, hownU _ _ _ _ h2 RB hij⟩
      | 16 =>
        rintro ⟨b, c, h1, h2⟩
        refine ⟨b, c, h1, hownU _ _ _ _ h2 RB ?_⟩
        rintro rfl
        exact Bool.noConfusion (show true = false from haf)
      | n + 18 => exact id
    · exact ⟨fun _ => grown_drew (grown_refl _ _), by omega⟩
    · have KP : Hid (∀ w', w2.grownBy w' none ∨ w2.grownBy w' (some (w.heap.size + 1)) → w'.cell? ⟨w.heap.size, 1, none⟩ = some (.slice a us.length cap) ∧ w'.cell? ⟨w.heap.size, 2, none⟩ = some (.int .i64 k)) := Lib.hid fun w' h => by
        have k1 := s2.cells.1 1
        have k2 := s2.cells.1 2
        simp at k1 k2
        rcases h with h | h
        · exact ⟨h.cell k1 (by simp), h.cell k2 (by simp)⟩
        · exact ⟨h.cell k1 (by simp), h.cell k2 (by simp)⟩
      have KI : Hid (∀ c w', ((c ≤ 2 → w2.grownBy w' none) ∧ (c = 3 → ∃ a3 cap3, w2.grownBy w' (some (w.heap.size + 1)) ∧ w'.heap[w.heap.size + 1]? = some (.cells #[.int .i64 k, .slice a3 st.length cap3] 29 (0, 0)) ∧ w'.ownsRow w2.heap.size 3 1 (.slice a3 st.length cap3) st.length (st.map (Value.int .i64)))) → c ≤ 3 → w'.cell? ⟨w.heap.size, 1, none⟩ = some (.slice a us.length cap) ∧ w'.cell? ⟨w.heap.size, 2, none⟩ = some (.int .i64 k)) := Lib.hid fun c w' h hc => by
        by_cases h3 : c = 3
        · obtain ⟨_, _, h4, _⟩ := h.2 h3
          exact KP.out _ (.inr h4)
        · exact KP.out _ (.inl (h.1 (by omega)))
      refine ⟨?_, ?_, ?_, ?_, ?_, ?_, ?_, ?_, ?_, ?_, ?_, ?_, ?_, ?_, ?_, ?_, ?_, ?_⟩
      · intro n n1 n2 a0 w' hI hk K hK
        have h1 := Free.slot (v := .pointer (some ⟨w.heap.size, 0, none⟩)) (hk 1)
        refine Free.plain rfl ?_
        go_simp
        exact hK _ _ rfl hI ⟨fun _ _ => grown_refl _ _, by omega, by omega⟩
      · intro n n1 n2 a0 w' hI hk K hK
        have h10 := Free.slot (v := .pointer (some ⟨w.heap.size, 2, none⟩)) (hk 10)
        have hc := (KI.out n w' hI (Nat.le_trans n2 (by decide))).2
        refine Free.plain rfl ?_
        go_simp
        exact hK _ _ rfl hI ⟨fun _ _ => grown_refl _ _, by omega, by omega⟩
      · intro n n1 n2 a0 w' hI hk K hK
        have h1 := Free.slot (v := .pointer (some ⟨w.heap.size, 0, none⟩)) (hk 1)
        refine Free.plain rfl ?_
        go_simp
        exact hK _ _ rfl hI ⟨fun _ _ => grown_refl _ _, by omega, by omega⟩
      · intro n n1 n2 a0 w' hI hk K hK
        have h12 := Free.slot (v := .pointer (some ⟨w.heap.size, 1, none⟩)) (hk 12)
        have hc := (KI.out n w' hI (Nat.le_trans n2 (by decide))).1
        refine Free.plain rfl ?_
        go_simp
        exact hK _ _ rfl hI ⟨fun _ _ => grown_refl _ _, by omega, by omega⟩
      · intro n n1 n2 a0 w' hI hk K hK
        have h1 := Free.slot (v := .pointer (some ⟨w.heap.size, 0, none⟩)) (hk 1)
        refine Free.plain rfl ?_
        go_simp
        exact hK _ _ rfl hI ⟨fun _ _ => grown_refl _ _, by omega, by omega⟩
      · intro n n1 n2 a0 w' hI hk K hK
        have h14 := Free.slot (v := .pointer (some ⟨w.heap.size, 2, none⟩)) (hk 14)
        have hc := (KI.out n w' hI (Nat.le_trans n2 (by decide))).2
        refine Free.plain rfl ?_
        go_simp
        exact hK _ _ rfl hI ⟨fun _ _ => grown_refl _ _, by omega, by omega⟩
      · intro a0 w' hI hk K hK
        have h13 := Free.slot (v := .slice a us.length cap) (hk 13)
        have h15 := Free.slot (v := .int .i64 k) (hk 15)
        have hg0 := hI.1 (by decide)
        refine Free.plain rfl ?_
        go_simp
        refine (L2.out _ (hx2.below (grown_below hg0))).mono ?_
        rintro e w6 ⟨a3, cap3, rfl, ho, hb6⟩
        exact hK _ _ ⟨a3, cap3, rfl, fun _ => ownsRow_mono ho hg0.size⟩ ⟨fun _ => grown_trans hg0 (below_grown hb6 none), by omega⟩ ⟨fun _ _ => below_grown hb6 none, by omega, by omega⟩
      · intro n n1 n2 a0 w' hI hk K hK
        have h11 := Free.slot (v := .int .i64 k) (hk 11)
        obtain ⟨a3, cap3, h16', ho⟩ := hk 16
        have h16 := Free.slot h16'
        refine Free.plain rfl ?_
        go_simp
        exact hK _ _ ⟨a3, cap3, rfl, ho⟩ hI ⟨fun _ _ => grown_refl _ _, by omega, by omega⟩
      · intro n n1 n2 a0 w' hI hk K hK
        have n3 : n ≤ 1 := n2
        have hg0 := hI.1 (by omega)
        refine Free.plain rfl ?_
        go_simp
        refine hK _ _ ⟨_, rfl, fun _ => ?_⟩ ⟨fun _ => grown_new hg0 _, by omega⟩ ⟨fun _ _ => World.grownBy_alloc _ _ _, by omega, by omega⟩
        exact World.ownsRow_lit w' #[] 0 hg0.size (by simp [maxLen]) (by simp)
      · intro n n1 n2 a0 w' hI hk K hK
        have h1 := Free.slot (v := .pointer (some ⟨w.heap.size, 0, none⟩)) (hk 1)
        refine Free.plain rfl ?_
        go_simp
        exact hK _ _ rfl hI ⟨fun _ _ => grown_refl _ _, by omega, by omega⟩
      · intro n n1 n2 a0 w' hI hk K hK
        have h19 := Free.slot (v := .pointer (some ⟨w.heap.size, 1, none⟩)) (hk 19)
        have hc := (KI.out n w' hI (Nat.le_trans n2 (by decide))).1
        refine Free.plain rfl ?_
        go_simp
        exact hK _ _ rfl hI ⟨fun _ _ => grown_refl _ _, by omega, by omega⟩
      · intro n n1 n2 a0 w' hI hk K hK
        have h1 := Free.slot (v := .pointer (some ⟨w.heap.size, 0, none⟩)) (hk 1)
        refine Free.plain rfl ?_
        go_simp
        exact hK _ _ rfl hI ⟨fun _ _ => grown_refl _ _, by omega, by omega⟩
      · intro n n1 n2 a0 w' hI hk K hK
        have h21 := Free.slot (v := .pointer (some ⟨w.heap.size, 2, none⟩)) (hk 21)
        have hc := (KI.out n w' hI (Nat.le_trans n2 (by decide))).2
        refine Free.plain rfl ?_
        go_simp
        exact hK _ _ rfl hI ⟨fun _ _ => grown_refl _ _, by omega, by omega⟩
      · intro n n1 n2 a0 w' hI hk K hK
        have h20 := Free.slot (v := .slice a us.length cap) (hk 20)
        have h22 := Free.slot (v := .int .i64 k) (hk 22)
        refine Free.plain rfl ?_
        go_simp
        exact hK _ _ rfl hI ⟨fun _ _ => grown_refl _ _, by omega, by omega⟩
      · intro a0 w' hI hk K hK
        obtain ⟨b, h18', ho⟩ := hk 18
        have h23 : a0.eval (.tmp 23) = .slice a' (us.length - k) (cap - k) := hk 23
        have ho' := ho (by decide)
        have hg0 := hI.1 (by decide)
        refine step_appV elem_upd rfl _ _ rfl w2.heap.size (.slice (some ⟨b, 0, none⟩) 0 0) 0 [] h18' a' (us.length - k) (cap - k) h23 (ucells pd) (by rw [ucells_len, HDL.out]) (all_upd pd) (by omega) (by omega) ((HXD.out _ (hx2.below (grown_below hg0)))) ho' hg0.size ?_
        intro v' w6 hown6 hgrow hat hlt6
        rw [HDL.out, Nat.zero_add, List.nil_append] at hown6
        have hb := ho'.lt b rfl
        obtain ⟨a4, cap4, rfl⟩ : ∃ a4 cap4, v' = .slice a4 pd.length cap4 := by
          rcases hown6.2 with ⟨h1, h2⟩ | ⟨b2, c2, cur, h1, _⟩
          · exact ⟨none, 0, by rw [h1, h2]⟩
          · exact ⟨_, _, h1⟩
        refine hK _ _ ⟨a4, cap4, rfl, hown6⟩ ⟨fun _ => grown_own hg0 hgrow (fun x hx => (ho'.lt x hx).1), by omega⟩ ⟨by omega, fun _ => ?_, by omega⟩
        obtain ⟨cur, hcur⟩ := own_block ho' b rfl
        exact ⟨b, cur, hgrow, hcur⟩
      · intro a0 w' hI hk K hK
        have h2 := Free.slot (v := .pointer (some ⟨w.heap.size + 1, 0, none⟩)) (hk 2)
        obtain ⟨a3, cap3, h17', ho⟩ := hk 17
        have h17 := Free.slot h17'
        have ho' := ho (by decide)
        have hg0 := hI.1 (by decide)
        have hr := heap_kept s2.at1.boxAt hg0 (by simp)
        have c0 : w'.cell? ⟨w.heap.size + 1, 0, none⟩ = some (.int .i64 0) := by rw [cell_of_heap hr]; rfl
        have c1 : w'.cell? ⟨w.heap.size + 1, 1, none⟩ = some (.slice none 0 0) := by rw [cell_of_heap hr]; rfl
        have f0 := frozen_of_heap (o := 0) hr
        have f1 := frozen_of_heap (o := 1) hr
        have hne : (Value.slice a3 st.length cap3).ownBlock = none ∨ (Value.slice a3 st.length cap3).ownBlock ≠ some (w.heap.size + 1) := by
          cases hv : (Value.slice a3 st.length cap3).ownBlock with
          | none => exact .inl rfl
          | some g =>
            refine .inr fun e0 => ?_
            cases e0
            have := (ho'.lt _ hv).1
            omega
        refine Free.plain rfl ?_
        go_simp
        have G1 := grown_trans (grown_put w' ⟨w.heap.size + 1, 0, none⟩ (.int .i64 k)) (grown_put _ ⟨w.heap.size + 1, 1, none⟩ (.slice a3 st.length cap3))
        refine hK undef _ trivial ⟨by omega, fun _ => ⟨a3, cap3, ?_, heap_set (heap_set hr _) _, (ho'.kept (grown_put w' ⟨w.heap.size + 1, 0, none⟩ _) hne).kept (grown_put _ ⟨w.heap.size + 1, 1, none⟩ _) hne⟩⟩ ⟨by omega, by omega, fun _ => G1⟩
        exact grown_trans (below_grown (grown_below hg0) _) G1
      · intro n n1 n2 a0 w' hI hk K hK
        obtain ⟨a4, cap4, h24', ho⟩ := hk 24
        have h24 := Free.slot h24'
        refine Free.plain rfl ?_
        go_simp
        exact hK _ _ ⟨a4, cap4, rfl, ho⟩ hI ⟨fun _ _ => grown_refl _ _, by omega, by omega⟩
      · intro n n1 n2 a0 w' hI hk K hK
        refine Free.plain rfl ?_
        go_simp
        exact hK _ _ rfl hI ⟨fun _ _ => grown_refl _ _, by omega, by omega⟩
    · intro vs w5 hI hp hv
      obtain ⟨a3, cap3, hg5, hr5, ho3⟩ := hI.2 rfl
      obtain ⟨a4, cap4, e16, ho4⟩ := hv 16 (by decide)
      have e17 : vs 17 = .bool true := hv 17 (by decide)
      have hb5 : Below w.heap.size w w5 := by
        have h1 := s2.below
        have h2 := grown_own (below_grown h1 none) hg5 (fun b hb => by cases hb; omega)
        exact grown_below h2
      have FIN : St w w5 [row (.slice a4 pd.length cap4) 67 2 pd.length (ucells pd), row (.slice a3 st.length cap3) 3 1 st.length (st.map (Value.int .i64))] := by
        refine ⟨row_own ho4, fun b hb => ?_, fun z hz => ?_, row_own ho3, fun b hb => ?_, fun z hz => by simp at hz, hb5⟩
        · have := ho4.lt b hb; omega
        · obtain rfl : z = _ := by simpa using hz
          exact own_apart ho4 ho3 (by decide)
        · have := ho3.lt b hb; omega
      have FIN := Lib.hid FIN
      have r0 : w5.cell? ⟨w.heap.size + 1, 0, none⟩ = some (.int .i64 k) := by rw [cell_of_heap hr5]; rfl
      have r1 : w5.cell? ⟨w.heap.size + 1, 1, none⟩ = some (.slice a3 st.length cap3) := by rw [cell_of_heap hr5]; rfl
      simp only [Free.puts, e16, e17]
      clear hv hI e16 e17 hp hg5 hr5 ho3 ho4 hb5 s2 hx2 hsl
      go_wp2_with fail
      exact bodyPost_ret (v := .tuple #[.agg #[.int .i64 k, .slice a3 st.length cap3], .slice a4 pd.length cap4, .bool true]) (by simp [results, Try.results13, go_sem, r0, r1]) rfl ⟨a3, cap3, a4, cap4, rfl, FIN.out⟩

end Go.Proofs.Ytgdbphgcpcihcaa
