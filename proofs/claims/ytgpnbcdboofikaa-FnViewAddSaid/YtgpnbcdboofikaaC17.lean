
/-
  The walks of the functions on links. No statement is proved here.
-/
import Derived.Test.YtgpnbcdboofikaaC16
namespace Go.Proofs.Ytgpnbcdboofikaa
open Go.RowKit

/-- The pointer to the first of these links. -/
def ptr : List Nat → Value
  | [] => .pointer none
  | b :: _ => .pointer (some ⟨b, 0, none⟩)
def lnkCells (n : Nd) (bs : List Nat) : Array Value := #[.int .i64 n.id, .slice n.a n.us.length n.cap, .int .i64 n.done, ptr bs]
/-- The links, each in a block of its own. -/
def lnks : List Nd → List Nat → List Res
  | n :: ns, b :: bs => box b (lnkCells n bs) 85 :: lnks ns bs
  | _, _ => []
theorem lnk_mem : ∀ (ms : List Nd) (bs : List Nat) (k : Nat), bs.length = ms.length → k < ms.length → box (bs.getD k 0) (lnkCells (nd ms k) (bs.drop (k + 1))) 85 ∈ lnks ms bs
  | [], _, _, _, h => by simp at h
  | _ :: _, [], _, h, _ => by simp at h
  | n :: ns, b :: bs, 0, _, _ => by simp [lnks, nd]
  | n :: ns, b :: bs, k + 1, h, hk => by
    have := lnk_mem ns bs k (by simpa using h) (by simpa using hk)
    simp only [lnks, List.mem_cons]
    right
    simpa [nd] using this
/-- The links lie where they should. -/
def LinksAt (w : World) (ms : List Nd) (bs : List Nat) : Prop :=
  (bs.length = ms.length ∧ bs.Nodup) ∧ ∀ k, k < ms.length → ∀ o, w.cell? ⟨bs.getD k 0, o, none⟩ = (lnkCells (nd ms k) (bs.drop (k + 1)))[o]?
theorem St.nodup {w0 w : World} : ∀ {rs : List Res}, St w0 w rs → (rs.filterMap Res.blk).Nodup
  | [], _ => by simp
  | r :: rs, h => by
    have ih := St.nodup h.2.2.2
    rw [List.filterMap_cons]
    cases hb : r.blk with
    | none => exact ih
    | some b =>
      rw [List.nodup_cons]
      refine ⟨fun hm => ?_, ih⟩
      obtain ⟨z, hz, e⟩ := List.mem_filterMap.1 hm
      rcases h.2.2.1 z hz with h1 | h1
      · rw [hb] at h1; cases h1
      · exact h1 (by rw [hb, e])
theorem lnks_blk : ∀ (ms : List Nd) (bs : List Nat), bs.length = ms.length → (lnks ms bs).filterMap Res.blk = bs
  | [], [], _ => rfl
  | [], _ :: _, h => by simp at h
  | _ :: _, [], h => by simp at h
  | n :: ns, b :: bs, h => by
    have := lnks_blk ns bs (by simpa using h)
    simp only [lnks, List.filterMap_cons]
    show b :: _ = _
    rw [this]
theorem idx_at {bs : List Nat} (h : bs.Nodup) {k : Nat} (hk : k < bs.length) : bs.idxOf (bs.getD k 0) = k := by
  have e : bs.getD k 0 = bs[k] := by simp [hk]
  rw [e]
  exact h.idxOf_getElem k hk
theorem links_of {w0 w : World} {rs : List Res} {X : List Res} {ms : List Nd} {bs : List Nat} (h : St w0 w rs) (hl : bs.length = ms.length) (hr : rs = lnks ms bs ++ X) : LinksAt w ms bs :=
  ⟨⟨hl, by
    have := (h.take (lnks ms bs) X hr).nodup
    rwa [lnks_blk ms bs hl] at this⟩, fun k hk o => cell_of_heap (h.pull (by rw [hr]; exact List.mem_append_left _ (lnk_mem ms bs k hl hk))).boxAt⟩
theorem LinksAt.below {w w' : World} {ms : List Nd} {bs : List Nat} (h : LinksAt w ms bs) (hb : Below w.heap.size w w') : LinksAt w' ms bs :=
  ⟨h.1, fun k hk o => by
    have h0 := h.2 k hk 0
    have e : (lnkCells (nd ms k) (bs.drop (k + 1)))[0]? = some (.int .i64 (nd ms k).id) := rfl
    rw [hb.cell (p := ⟨bs.getD k 0, o, none⟩) (by exact lt_of_cell (h0.trans e))]
    exact h.2 k hk o⟩
theorem ptr_drop {bs : List Nat} {k : Nat} (h : k < bs.length) : ptr (bs.drop k) = .pointer (some ⟨bs.getD k 0, 0, none⟩) := by
  rw [List.drop_eq_getElem_cons h]
  simp [ptr, h]
theorem ptr_end {bs : List Nat} {k : Nat} (h : bs.length ≤ k) : ptr (bs.drop k) = .pointer none := by
  rw [List.drop_of_length_le h]; rfl

/-- How far it is to the end. -/
def toEnd (bs : List Nat) (p : Value) : Nat := match p with
  | .pointer (some ad) => bs.length - bs.idxOf ad.block
  | _ => 0
theorem toEnd_at {bs : List Nat} (h : bs.Nodup) {k : Nat} (hk : k < bs.length) : toEnd bs (.pointer (some ⟨bs.getD k 0, 0, none⟩)) = bs.length - k := by
  show bs.length - bs.idxOf (bs.getD k 0) = _
  rw [idx_at h hk]
theorem toEnd_drop {bs : List Nat} (h : bs.Nodup) (k : Nat) : toEnd bs (ptr (bs.drop k)) = bs.length - k := by
  by_cases hk : k < bs.length
  · rw [ptr_drop hk, toEnd_at h hk]
  · rw [ptr_end (by omega)]
    show 0 = _
    omega

set_option maxRecDepth 100000 in
set_option maxHeartbeats 2000000 in
theorem last_calls (ms : List Nd) (bs : List Nat) (w : World) (h0 : 0 < ms.length) (hl : LinksAt w ms bs) :
    Calls Try.prog 54 #[ptr bs] w fun e w' => e = .returned (.pointer (some ⟨bs.getD (ms.length - 1) 0, 0, none⟩)) ∧ w = w' := by
  have hlen := hl.1.1
  have ND := Lib.hid hl.1.2
  have hp : ptr bs = .pointer (some ⟨bs.getD 0 0, 0, none⟩) := by have := ptr_drop (bs := bs) (k := 0) (by omega); simpa using this
  have CC := Lib.hid hl.2
  rw [hp]
  clear hp hl
  go_enter Try.func54, Try.ntmps54
  go_wp2_with fail
  go_loop [0] (fun p => ∃ k : Nat, k < ms.length ∧ p = .pointer (some ⟨bs.getD k 0, 0, none⟩)) (fun p => toEnd bs p)
  case atStart => exact ⟨0, h0, rfl⟩
  case round =>
    obtain ⟨k, hk, rfl⟩ := hrel
    have M0 := Lib.hid (toEnd_at ND.out (show k < bs.length by omega))
    have c : w.cell? ⟨bs.getD k 0, 3, none⟩ = some (ptr (bs.drop (k + 1))) := CC.out k hk 3
    by_cases hlt : k + 1 < ms.length
    · rw [ptr_drop (by omega)] at c
      have M1' := (toEnd_at ND.out (show k + 1 < bs.length by omega))
      have M1 := M1'
      clear M1'
      obtain ⟨b1, hb1⟩ : ∃ b1, bs.getD (k + 1) 0 = b1 := ⟨_, rfl⟩
      have H1 := Lib.hid hb1
      rw [hb1] at c M1
      have HM1 := Lib.hid M1
      clear hb1 M1
      generalize bs.getD k 0 = b0 at *
      go_wp2_with fail
      go_round
      case rel => exact ⟨k + 1, hlt, by rw [H1.out]⟩
      case measure => rw [M0.out, HM1.out]; omega
    · rw [ptr_end (by omega)] at c
      have E := Lib.hid (show bs[ms.length - 1]?.getD 0 = bs.getD k 0 by rw [show ms.length - 1 = k by omega, List.getD_eq_getElem?_getD])
      generalize bs.getD k 0 = b0 at *
      go_wp2_with fail
      go_ret
      exact ⟨by rw [E.out]; rfl, rfl⟩

set_option maxRecDepth 100000 in
set_option maxHeartbeats 2000000 in
theorem nodes_calls (ms : List Nd) (bs : List Nat) (w : World) (hm : ms.length ≤ 1000) (hl : LinksAt w ms bs) :
    Calls Try.prog 56 #[ptr bs] w fun e w' => ∃ v, e = .returned v ∧ St w w' [row v 32 3 ms.length (ncells ms)] := by
  have hlen := hl.1.1
  have ND := Lib.hid hl.1.2
  have LB := Lib.hid (fun W (h : Below w.heap.size w W) => (hl.below h).2)
  have s0 := ((St.start w).alloc (.cells #[] 32)).madeRow 3 0 rfl (by simp [maxLen]) 0 (Nat.le_refl _)
  have P0 : Hid (ptr bs = ptr (bs.drop 0)) := Lib.hid (by simp)
  clear hl
  generalize hp0 : ptr bs = p0 at *
  clear hp0
  go_enter Try.func56, Try.ntmps56
  go_wp2_with fail
  go_loopw [0, 3] (fun p v wr => ∃ k : Nat, k ≤ ms.length ∧ p = ptr (bs.drop k) ∧ St w wr [row v 32 3 (ms.take k).length (ncells (ms.take k))]) (fun p _ _ => toEnd bs p)
  case atStart => exact ⟨0, Nat.zero_le _, P0.out, by simpa [ncells] using s0⟩
  case round =>
    clear s0
    obtain ⟨k, hk, rfl, s1⟩ := hrel
    have M0 := Lib.hid (toEnd_drop ND.out k)
    by_cases hlt : k < ms.length
    · have CL := LB.out _ s1.below k hlt
      have c0 : wr.cell? ⟨bs.getD k 0, 0, none⟩ = some (.int .i64 (nd ms k).id) := CL 0
      have c1 : wr.cell? ⟨bs.getD k 0, 1, none⟩ = some (.slice (nd ms k).a (nd ms k).us.length (nd ms k).cap) := CL 1
      have c2 : wr.cell? ⟨bs.getD k 0, 2, none⟩ = some (.int .i64 (nd ms k).done) := CL 2
      have c3 : wr.cell? ⟨bs.getD k 0, 3, none⟩ = some (ptr (bs.drop (k + 1))) := CL 3
      have hbl := lt_of_cell c0
      have M1 := Lib.hid (toEnd_drop ND.out (k + 1))
      have SN : Hid (ms.take (k + 1) = ms.take k ++ [nd ms k]) := Lib.hid (by rw [List.take_succ_eq_append_getElem hlt, nd_eq hlt])
      have NN : Hid (ncells [nd ms k] = [.int .i64 (nd ms k).id, .slice (nd ms k).a (nd ms k).us.length (nd ms k).cap, .int .i64 (nd ms k).done]) := Lib.hid rfl
      have hkl : (ms.take k).length ≤ 1000 := by simp; omega
      have PD := ptr_drop (bs := bs) (k := k) (by omega)
      rw [PD] at M0 ⊢
      have CB := Lib.hid (fun W (h : Below w.heap.size w W) => show W.cell? ⟨bs.getD k 0, 3, none⟩ = some (ptr (bs.drop (k + 1))) from LB.out W h k hlt 3)
      generalize hpn : ptr (bs.drop (k + 1)) = pn at *
      have HP := Lib.hid hpn
      generalize hb0 : bs.getD k 0 = b0 at *
      clear CL PD hb0 hpn
      have o1 := s1.own
      have lR := s1.size
      go_wp2_with ((at_builtin; refine list_app elem_node (by rfl) _ _ (by rfl) w.heap.size _ (ms.take k).length (ncells (ms.take k)) (by rfl) wr.heap.size 1 1 (by rfl) #[.int .i64 (nd ms k).id, .slice (nd ms k).a (nd ms k).us.length (nd ms k).cap, .int .i64 (nd ms k).done] 32 (0, 0) (by rfl) (by simp [Value.oneCell']) (by omega) (by omega) (by omega) (heap_alloc_new wr _) (o1.alloc _) (by simp; omega) ?_); intro gg cap3 w7 hown hgrow hat hl; have s7 := (s1.app (World.grownBy_alloc _ _ none) hown hgrow hat hl); have c7 := CB.out _ s7.below)
      go_roundw
      case rel => exact ⟨k + 1, hlt, HP.out.symm, by
        rw [SN.out, ncells_append, NN.out]
        have hmin : min k ms.length = k := by omega
        simpa [hmin] using s7⟩
      case measure => rw [M0.out, M1.out]; omega
    · have PE := ptr_end (bs := bs) (k := k) (by omega)
      rw [PE]
      clear PE M0
      have hk' : ms.take k = ms := List.take_of_length_le (by omega)
      rw [hk'] at s1
      go_wp2_with fail
      go_ret
      exact ⟨_, rfl, s1⟩

end Go.Proofs.Ytgpnbcdboofikaa
