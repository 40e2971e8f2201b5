/-
  The walk of FnViewPart.
-/
import Derived.Test.YtkbckgnkbnakkaaD2
import Derived.Test.YtkbckgnkbnakkaaV2
namespace Go.Proofs.Ytkbckgnkbnakkaa.fnViewPart
open Go.RowKit Go.Proofs.Ytkbckgnkbnakkaa

theorem dup_bad (num : Int) (x : Int) (xs : List Int) : viewOk num (x :: x :: xs) = false := by
  refine viewOk_bad2 ?_
  simp [idsOk]

set_option maxHeartbeats 1000000 in
theorem walk (a0 : Option Addr) (len0 cap0 : Nat) (z0 : List Int) (w : World) (w0 : IsRow .u8 w a0 len0 cap0 z0) :
    Calls Try.prog 3 #[.slice a0 len0 cap0] w fun e w' => e = .returned (.bool true) ∧ Below w.heap.size w w' := by
  have hle := w0.le
  have hby := w0.bytes
  clear w0
  by_cases hbig : len0 ≤ 1048576
  · go_enter Try.func3, Try.ntmps3
    go_wp2_with fail
    refine (drawViewValid_calls _ _ _ _ hle.1 hle.2 hby).mono ?_
    rintro e w1 ⟨num, g, cap, xs, rfl, hn0, hn1, hx0, hx1, hxs, hown, hb1⟩
    go_wp2_with fail
    have s1 := hb1.size
    have hi1 := (own_ints hown).below ((Below.refl w1.heap.size w1).alloc (Nat.le_refl _) (.cells #[.int .i64 num, .slice (some ⟨g, 0, none⟩) xs.length cap] 25))
    refine (viewValid_calls _ _ _ _ _ (by omega) hi1).mono ?_
    rintro e w2 ⟨rfl, hb2⟩
    have s2 := hb2.size
    simp at s2
    have hV2 := (hb2.block w1.heap.size (by simp)).trans (heap_alloc_new w1 _)
    have hc20 : w2.cell? ⟨w1.heap.size, 0, none⟩ = some (.int .i64 num) := by rw [cell_of_heap hV2]; rfl
    have hc21 : w2.cell? ⟨w1.heap.size, 1, none⟩ = some (.slice (some ⟨g, 0, none⟩) xs.length cap) := by rw [cell_of_heap hV2]; rfl
    have hi2 := hi1.below hb2
    go_wp2_with fail
    refine (specViewValid_calls _ _ _ _ _ (by omega) hi2).mono ?_
    rintro e w3 ⟨rfl, hb3⟩
    have s3 := hb3.size
    have hV3 := (hb3.block w1.heap.size (by omega)).trans hV2
    have hc30 : w3.cell? ⟨w1.heap.size, 0, none⟩ = some (.int .i64 num) := by rw [cell_of_heap hV3]; rfl
    have hc31 : w3.cell? ⟨w1.heap.size, 1, none⟩ = some (.slice (some ⟨g, 0, none⟩) xs.length cap) := by rw [cell_of_heap hV3]; rfl
    have hi3 := hi2.below hb3
    have hbel : Below w.heap.size w w3 := (hb1.trans ((((Below.refl _ _).alloc (Nat.le_refl _) _).trans (hb2.mono (by simp))).mono s1)).trans (hb3.mono (by omega))
    have hown3 : w3.ownsRow w.heap.size 3 1 (.slice (some ⟨g, 0, none⟩) xs.length cap) xs.length (xs.map (Value.int .i64)) :=
      ((hown.alloc _).kept (below_grown hb2 none) (.inr (by simp [Value.ownBlock]))).kept (below_grown hb3 none) (.inr (by simp [Value.ownBlock]))
    cases hv : viewOk num xs with
    | false =>
      go_wp2_with fail
      go_ret
      exact ⟨rfl, hbel⟩
    | true =>
      have hgl := (hown3.lt g rfl)
      clear hi1 hi2 hb2 hb1 hb3 hV2 hown hc20 hc21
      obtain ⟨x0, r, rfl⟩ : ∃ x r, xs = x :: r := by
        cases xs with
        | nil => simp at hx0
        | cons x r => exact ⟨x, r, rfl⟩
      have hcg : w3.cell? ⟨g, 0, none⟩ = some (.int .i64 x0) := by rw [hown3.cellAt 0 (by omega)]; rfl
      have hVl := lt_of_heap hV3
      have bad := Lib.hid (dup_bad num x0 r)
      have bad0 := Lib.hid (viewOk_bad1 (num := num) (xs := []) (by simp))
      have hx1' : r.length + 1 ≤ 5 := by simpa using hx1
      have hnews := hown3.cells (g := g) rfl
      rw [show (x0 :: r).length = r.length + 1 from rfl] at *
      generalize w1.heap.size = V at *
      clear hi3 hv hx0 hx1 hxs
      go_wp2_with fail
      have hV4 := heap_one hV3 (.cells #[.int .i64 num, .slice none 0 0] 25)
      have hX4 := heap_alloc_new w3 (.cells #[.int .i64 num, .slice none 0 0] 25)
      have hown4 := hown3.alloc (.cells #[.int .i64 num, .slice none 0 0] 25)
      have hbel4 := hbel.alloc hbel.size (.cells #[.int .i64 num, .slice none 0 0] 25)
      have hs4 : (w3.alloc (.cells #[.int .i64 num, .slice none 0 0] 25)).heap.size = w3.heap.size + 1 := by simp
      generalize w3.alloc (.cells #[.int .i64 num, .slice none 0 0] 25) = w4 at *
      generalize w3.heap.size = X at *
      clear hown3 hV3 hc30 hc31 hcg hbel hnews
      refine Free.wp_region_puts [9, 12]
        (fun c a w' => w4.grownBy w' none ∧ (c = 2 → ∃ g' cap' y, y ≠ X ∧ a.eval (.tmp 7) = .pointer (some ⟨y, 0, none⟩) ∧ w'.heap[y]? = some (.cells #[.int .i64 num, .slice (some ⟨g', 0, none⟩) (r.length + 2) cap'] 25 (0, 0)) ∧
          w'.ownsRow w4.heap.size 3 1 (.slice (some ⟨g', 0, none⟩) (r.length + 2) cap') (r.length + 2) ((x0 :: x0 :: r).map (Value.int .i64))))
        (fun i w1 w2 => (i ≠ 9 → i ≠ 12 → w1.grownBy w2 none) ∧ (i = 9 → ∃ b cs, w1.grownBy w2 (some b) ∧ w1.heap[b]? = some (.cells cs 3 (0, 0))))
        (fun j c v w' => match j with
          | 0 => v = .pointer (some ⟨V, 0, none⟩)
          | 1 => v = .int .i64 num
          | 2 => v = .pointer (some ⟨V, 1, none⟩)
          | 3 => v = .slice (some ⟨g, 0, none⟩) (r.length + 1) cap
          | 4 => v = .pointer (some ⟨g, 0, none⟩)
          | 5 => v = .int .i64 x0
          | 6 => ∃ b, v = .slice (some ⟨b, 0, none⟩) 1 1 ∧ (c = 0 → w'.ownsRow w4.heap.size 3 1 (.slice (some ⟨b, 0, none⟩) 1 1) 1 [.int .i64 x0])
          | 7 => v = .pointer (some ⟨V, 1, none⟩)
          | 8 => v = .slice (some ⟨g, 0, none⟩) (r.length + 1) cap
          | 9 => ∃ g' cap', v = .slice (some ⟨g', 0, none⟩) (r.length + 2) cap' ∧ (c ≤ 1 → w'.ownsRow w4.heap.size 3 1 (.slice (some ⟨g', 0, none⟩) (r.length + 2) cap') (r.length + 2) ((x0 :: x0 :: r).map (Value.int .i64)))
          | 10 => ∃ g' cap', v = .agg #[.int .i64 num, .slice (some ⟨g', 0, none⟩) (r.length + 2) cap'] ∧ (c ≤ 1 → w'.ownsRow w4.heap.size 3 1 (.slice (some ⟨g', 0, none⟩) (r.length + 2) cap') (r.length + 2) ((x0 :: x0 :: r).map (Value.int .i64)))
          | 11 => ∃ y, v = .pointer (some ⟨y, 0, none⟩) ∧ w4.heap.size ≤ y ∧ (c ≤ 1 → w'.heap[y]? = some (.cells #[.int .i64 0, .slice none 0 0] 25 (0, 0)))
          | _ => True)
        (by kernel_rfl) (by kernel_rfl) (by kernel_rfl) ?_ ?_ ?_ ?_
      · intro i j n n' u w1 w2 hph hij haf hR
        have hph' : (i ≠ 9 ∧ i ≠ 12 ∧ n' = n) ∨ (i = 9 ∧ n = 0 ∧ n' = 1) ∨ (i = 12 ∧ n = 1 ∧ n' = 2) := by
          rcases hph with ⟨h1, h2⟩ | ⟨h1, h2⟩
          · match n, h1 with
            | 0, h1 => simp at h1; omega
            | 1, h1 => simp at h1; omega
            | n + 2, h1 => simp at h1
          · simp at h1; omega
        have hown : ∀ v k ys, w1.ownsRow w4.heap.size 3 1 v k ys → n' = n → w2.ownsRow w4.heap.size 3 1 v k ys := fun v k ys h e => h.kept (hR.1 (by omega) (by omega)) (by cases v.ownBlock <;> simp)
        match j with
        | 0 | 1 | 2 | 3 | 4 | 5 | 7 | 8 => exact id
        | 6 => rintro ⟨b, h1, h2⟩; exact ⟨b, h1, fun e => hown _ _ _ (h2 (by omega)) (by omega)⟩
        | 9 => rintro ⟨b, c, h1, h2⟩; exact ⟨b, c, h1, fun e => hown _ _ _ (h2 (by omega)) (by omega)⟩
        | 10 =>
          rintro ⟨b, c, h1, h2⟩
          refine ⟨b, c, h1, fun e => hown _ _ _ (h2 (by omega)) ?_⟩
          rcases hph' with h | h | h
          · omega
          · exfalso
            obtain ⟨rfl, _⟩ := h
            exact Bool.noConfusion (show true = false from haf)
          · omega
        | 11 =>
          rintro ⟨y, h1, h2, h3⟩
          refine ⟨y, h1, h2, fun e => ?_⟩
          rcases hph' with h | h | h
          · exact heap_kept (h3 (by omega)) (hR.1 h.1 h.2.1) (by simp)
          · obtain ⟨b, cs, h4, h5⟩ := hR.2 h.1
            refine heap_kept (h3 (by omega)) h4 ?_
            intro e'
            cases e'
            rw [h3 (by omega)] at h5
            simp at h5
          · omega
        | n + 12 => exact id
      · exact ⟨grown_drew (grown_refl _ _), by omega⟩
      · refine ⟨?_, ?_, ?_, ?_, ?_, ?_, ?_, ?_, ?_, ?_, ?_, ?_, ?_⟩
        · intro n n1 n2 a w' hI hk K hK
          have h3 := Free.slot (v := .pointer (some ⟨V, 0, none⟩)) (hk 3)
          refine Free.plain rfl ?_
          go_simp
          exact hK _ _ rfl ⟨hI.1, fun e => by have n4 := Nat.le_trans n2 (Nat.le_of_ble_eq_true (m := 1) rfl); omega⟩ ⟨fun _ _ => grown_refl _ _, by omega⟩
        · intro n n1 n2 a w' hI hk K hK
          have h30 := Free.slot (v := .pointer (some ⟨V, 0, none⟩)) (hk 30)
          have hc : w'.cell? ⟨V, 0, none⟩ = some (.int .i64 num) := by rw [cell_of_heap (heap_kept hV4 hI.1 (by simp))]; rfl
          refine Free.plain rfl ?_
          go_simp
          exact hK _ _ rfl ⟨hI.1, fun e => by have n4 := Nat.le_trans n2 (Nat.le_of_ble_eq_true (m := 1) rfl); omega⟩ ⟨fun _ _ => grown_refl _ _, by omega⟩
        · intro n n1 n2 a w' hI hk K hK
          have h3 := Free.slot (v := .pointer (some ⟨V, 0, none⟩)) (hk 3)
          refine Free.plain rfl ?_
          go_simp
          exact hK _ _ rfl ⟨hI.1, fun e => by have n4 := Nat.le_trans n2 (Nat.le_of_ble_eq_true (m := 1) rfl); omega⟩ ⟨fun _ _ => grown_refl _ _, by omega⟩
        · intro n n1 n2 a w' hI hk K hK
          have h32 := Free.slot (v := .pointer (some ⟨V, 1, none⟩)) (hk 32)
          have hc : w'.cell? ⟨V, 1, none⟩ = some (.slice (some ⟨g, 0, none⟩) (r.length + 1) cap) := by rw [cell_of_heap (heap_kept hV4 hI.1 (by simp))]; rfl
          refine Free.plain rfl ?_
          go_simp
          exact hK _ _ rfl ⟨hI.1, fun e => by have n4 := Nat.le_trans n2 (Nat.le_of_ble_eq_true (m := 1) rfl); omega⟩ ⟨fun _ _ => grown_refl _ _, by omega⟩
        · intro n n1 n2 a w' hI hk K hK
          have h33 := Free.slot (v := .slice (some ⟨g, 0, none⟩) (r.length + 1) cap) (hk 33)
          refine Free.plain rfl ?_
          go_simp
          exact hK _ _ rfl ⟨hI.1, fun e => by have n4 := Nat.le_trans n2 (Nat.le_of_ble_eq_true (m := 1) rfl); omega⟩ ⟨fun _ _ => grown_refl _ _, by omega⟩
        · intro n n1 n2 a w' hI hk K hK
          have h34 := Free.slot (v := .pointer (some ⟨g, 0, none⟩)) (hk 34)
          have hc : w'.cell? ⟨g, 0, none⟩ = some (.int .i64 x0) := by rw [(hown4.kept hI.1 (by simp [Value.ownBlock])).cellAt 0 (by omega)]; rfl
          refine Free.plain rfl ?_
          go_simp
          exact hK _ _ rfl ⟨hI.1, fun e => by have n4 := Nat.le_trans n2 (Nat.le_of_ble_eq_true (m := 1) rfl); omega⟩ ⟨fun _ _ => grown_refl _ _, by omega⟩
        · intro n n1 n2 a w' hI hk K hK
          have h35 := Free.slot (v := .int .i64 x0) (hk 35)
          have n3 : n ≤ 0 := n2
          refine Free.plain rfl ?_
          go_simp
          refine hK _ _ ⟨_, rfl, fun _ => ?_⟩ ⟨grown_new hI.1 _, by omega⟩ ⟨fun _ _ => World.grownBy_alloc _ _ _, by omega⟩
          exact World.ownsRow_lit w' #[.int .i64 x0] 1 hI.1.size (by simp [maxLen]) (by simp)
        · intro n n1 n2 a w' hI hk K hK
          have h3 := Free.slot (v := .pointer (some ⟨V, 0, none⟩)) (hk 3)
          refine Free.plain rfl ?_
          go_simp
          exact hK _ _ rfl ⟨hI.1, fun e => by have n4 := Nat.le_trans n2 (Nat.le_of_ble_eq_true (m := 1) rfl); omega⟩ ⟨fun _ _ => grown_refl _ _, by omega⟩
        · intro n n1 n2 a w' hI hk K hK
          have h37 := Free.slot (v := .pointer (some ⟨V, 1, none⟩)) (hk 37)
          have n3 : n ≤ 0 := n2
          have hc : w'.cell? ⟨V, 1, none⟩ = some (.slice (some ⟨g, 0, none⟩) (r.length + 1) cap) := by rw [cell_of_heap (heap_kept hV4 hI.1 (by simp))]; rfl
          refine Free.plain rfl ?_
          go_simp
          exact hK _ _ rfl ⟨hI.1, fun e => by have n4 := Nat.le_trans n2 (Nat.le_of_ble_eq_true (m := 1) rfl); omega⟩ ⟨fun _ _ => grown_refl _ _, by omega⟩
        · intro a w' hI hk K hK
          obtain ⟨b, h36', ho⟩ := hk 36
          have h38 : a.eval (.tmp 38) = .slice (some ⟨g, 0, none⟩) (r.length + 1) cap := hk 38
          have ho' := ho rfl
          have hog := hown4.kept hI.1 (by simp [Value.ownBlock])
          refine step_appS elem_int rfl _ _ rfl w4.heap.size (.slice (some ⟨b, 0, none⟩) 1 1) 1 [.int .i64 x0] h36' ⟨g, 0, none⟩ (r.length + 1) cap h38 ((x0 :: r).map (Value.int .i64)) (by simp) (by simp [Value.oneCell']) (by omega) (by omega) (by omega) (hog.cells rfl) ho' hI.1.size ?_
          intro g' cap' w6 hown6 hgrow hat hlt6
          have e1 : 1 + (r.length + 1) = r.length + 2 := by omega
          rw [e1] at hown6 ⊢
          have hb := ho'.lt b rfl
          refine hK _ _ ⟨g', cap', rfl, fun _ => hown6⟩ ⟨grown_own hI.1 hgrow (fun x hx => (ho'.lt x hx).1), by omega⟩ ⟨by omega, fun _ => ?_⟩
          rcases ho'.2 with ⟨h1, _⟩ | ⟨b2, c2, cur, h1, _, h2, _⟩
          · cases h1
          · cases h1
            exact ⟨b, cur, hgrow, h2⟩
        · intro n n1 n2 a w' hI hk K hK
          have h31 := Free.slot (v := .int .i64 num) (hk 31)
          obtain ⟨g', cap', h39', ho⟩ := hk 39
          have h39 := Free.slot h39'
          refine Free.plain rfl ?_
          go_simp
          exact hK _ _ ⟨g', cap', rfl, ho⟩ ⟨hI.1, fun e => by have n4 := Nat.le_trans n2 (Nat.le_of_ble_eq_true (m := 1) rfl); omega⟩ ⟨fun _ _ => grown_refl _ _, by omega⟩
        · intro n n1 n2 a w' hI hk K hK
          have n3 : n ≤ 1 := n2
          refine Free.plain rfl ?_
          go_simp
          exact hK _ _ ⟨_, rfl, hI.1.size, fun _ => heap_alloc_new _ _⟩ ⟨grown_new hI.1 _, by omega⟩ ⟨fun _ _ => World.grownBy_alloc _ _ _, by omega⟩
        · intro a w' hI hk K hK
          obtain ⟨y, h7', hy1, hy2⟩ := hk 7
          have h7 := Free.slot h7'
          obtain ⟨g', cap', h40', ho⟩ := hk 40
          have h40 := Free.slot h40'
          have hy := hy2 (Nat.le_refl _)
          have ho' := ho (Nat.le_refl _)
          have c0 : w'.cell? ⟨y, 0, none⟩ = some (.int .i64 0) := by rw [cell_of_heap hy]; rfl
          have c1 : w'.cell? ⟨y, 1, none⟩ = some (.slice none 0 0) := by rw [cell_of_heap hy]; rfl
          have f0 := frozen_of_heap (o := 0) hy
          have f1 := frozen_of_heap (o := 1) hy
          have hgy : g' ≠ y := by
            intro e
            subst e
            rcases ho'.2 with ⟨h1, _⟩ | ⟨b2, c2, cur, h1, _, h2, _⟩
            · cases h1
            · cases h1
              rw [hy] at h2
              simp at h2
          refine Free.plain rfl ?_
          go_simp
          refine hK undef _ trivial ⟨grown_setNew (grown_setNew hI.1 (p := ⟨y, 0, none⟩) hy1 _) (p := ⟨y, 1, none⟩) hy1 _, fun _ => ⟨g', cap', y, by omega, h7', ?_, ?_⟩⟩ ⟨by omega, by omega⟩
          · exact heap_set (heap_set hy _) _
          · exact (ho'.kept (grown_put w' ⟨y, 0, none⟩ _) (.inr (by simpa [Value.ownBlock] using hgy))).kept (grown_put _ ⟨y, 1, none⟩ _) (.inr (by simpa [Value.ownBlock] using hgy))
      · intro vs w5 hI hp hv
        obtain ⟨g', cap', y, hyX, hy7, hy, ho⟩ := hI.2 rfl
        have e11 : vs 11 = .pointer (some ⟨y, 0, none⟩) := (hp 11 7 rfl).symm.trans hy7
        have hg5 := hI.1
        simp only [Free.puts, e11]
        have hX5 := heap_kept hX4 hg5 (by simp)
        have i5 : IntsAt w5 (some ⟨g', 0, none⟩) (x0 :: x0 :: r) := own_ints ho
        have hb5 : Below w.heap.size w w5 := hbel4.trans ((grown_below hg5).mono hbel4.size)
        have k0 : w5.cell? ⟨X, 0, none⟩ = some (.int .i64 num) := by rw [cell_of_heap hX5]; rfl
        have k1 : w5.cell? ⟨X, 1, none⟩ = some (.slice none 0 0) := by rw [cell_of_heap hX5]; rfl
        clear hv hI hy7 e11 hg5 hp
        go_wp2_with fail
        have B0 := (viewValid_calls none 0 num [] w5 (by simp) (.inl rfl))
        rw [bad0.out] at B0
        refine B0.mono ?_
        rintro e w6 ⟨rfl, hb6⟩
        have hy6 := (hb6.block y (lt_of_heap hy)).trans hy
        have i6 := i5.below hb6
        have m0 : w6.cell? ⟨y, 0, none⟩ = some (.int .i64 num) := by rw [cell_of_heap hy6]; rfl
        have m1 : w6.cell? ⟨y, 1, none⟩ = some (.slice (some ⟨g', 0, none⟩) (r.length + 2) cap') := by rw [cell_of_heap hy6]; rfl
        go_wp2_with fail
        have B1 := (viewValid_calls (some ⟨g', 0, none⟩) cap' num (x0 :: x0 :: r) w6 (by simp; omega) i6)
        rw [bad.out] at B1
        refine B1.mono ?_
        rintro e w7 ⟨rfl, hb7⟩
        go_wp2_with fail
        go_ret
        exact ⟨rfl, (hb5.trans (hb6.mono hb5.size)).trans (hb7.mono (Nat.le_trans hb5.size hb6.size))⟩
  · go_enter Try.func3, Try.ntmps3
    go_wp2_with fail
    go_ret
    exact ⟨rfl, Below.refl _ _⟩

end Go.Proofs.Ytkbckgnkbnakkaa.fnViewPart
