
/-
  The walks of the laws' own functions that mark a chain. No statement is proved here.
-/
import Derived.Test.YtgpnbcdboofikaaE7
namespace Go.Proofs.Ytgpnbcdboofikaa
open Go.RowKit

theorem nds_drop {ns : List Nd} {j : Nat} (h : j < ns.length) : nds (ns.drop j) = logRes (nd ns j) :: nds (ns.drop (j + 1)) := by
  rw [List.drop_eq_getElem_cons h, nd_eq h]; rfl
theorem mark_perm (x r : Res) (L B : List Res) : (x :: r :: (L ++ B)).Perm (x :: (L ++ (r :: B))) := List.Perm.cons _ List.perm_middle.symm

set_option maxHeartbeats 2000000 in
theorem markNodeS_st {w0 w : World} {rs : List Res} (a : Option Addr) (cap : Nat) (ns : List Nd) (k : Int) (h : St w0 w (row (.slice a ns.length cap) 32 3 ns.length (ncells ns) :: (nds ns ++ rs))) (hm : ns.length ≤ 2097152) (hu : ∀ n ∈ ns, n.us.length ≤ 2097152) (hk0 : 0 ≤ k) (hk : k + 2 * ns.length + 2 * lensN ns ≤ 1000000000) :
    Calls Try.prog 57 #[.slice a ns.length cap, .int .i64 k] w fun e w' => ∃ v : Int, e = .returned (.int .i64 v) ∧ 0 ≤ v ∧ ∃ X, St w0 w' (X ++ rs) := by
  by_cases h0 : 0 < ns.length
  · obtain ⟨g, c, e, _, _⟩ := h.own.form h0
    cases e
    have HU := Lib.hid hu
    clear hu
    go_enter Try.func57, Try.ntmps57
    go_wp2_with fail
    go_loopw [1, 5] (fun kk i wr => ∃ (j : Nat) (cs : List Value) (A : List Res), j ≤ ns.length ∧ i = .int .i64 j ∧ kk = .int .i64 (k + 2 * j + 2 * lensN (ns.take j)) ∧ (∀ o, j * 3 ≤ o → cs[o]? = (ncells ns)[o]?) ∧ St w0 wr (row (.slice (some ⟨g, 0, none⟩) ns.length cap) 32 3 ns.length cs :: (nds (ns.drop j) ++ (A ++ rs)))) (fun _ i _ => ns.length - (intOf i).toNat)
    case atStart => exact ⟨0, ncells ns, [], Nat.zero_le _, rfl, by simp [lensN], fun _ _ => rfl, h⟩
    case round =>
      clear h
      obtain ⟨j, cs, A, hj, rfl, rfl, ht, s1⟩ := hrel
      have hl := s1.own.1
      have hle := lensN_le (ns := ns) (k := j)
      by_cases hlt : j < ns.length
      · have HL := lensN_take hlt
        have hle2 := lensN_le (ns := ns) (k := j + 1)
        have hul := HU.out (nd ns j) (by rw [nd_eq hlt]; exact List.getElem_mem hlt)
        rw [nds_drop hlt] at s1
        have cd := s1.own.cellAt (j * 3) (by omega)
        have ce := s1.own.cellAt (j * 3 + 1) (by omega)
        have cf := s1.own.cellAt (j * 3 + 2) (by omega)
        have fd := s1.own.frozenAt (j * 3)
        obtain ⟨n0, n1, n2⟩ := ncells_at ns j hlt
        rw [ht _ (by omega), n0] at cd
        rw [ht _ (by omega), n1] at ce
        rw [ht _ (by omega), n2] at cf
        have HT := Lib.hid ht
        have HE := Lib.hid (show ∀ v : Int, v = k + 2 * j + 2 * lensN (ns.take j) → v + 1 + 2 * (nd ns j).us.length + 1 = k + 2 * ((j + 1 : Nat) : Int) + 2 * lensN (ns.take (j + 1)) by intro v hv; omega)
        obtain ⟨kk, hkk⟩ : ∃ kk : Int, k + 2 * j + 2 * lensN (ns.take j) = kk := ⟨_, rfl⟩
        have HV := Lib.hid (HE.out kk hkk.symm)
        have k1 : 0 ≤ kk := by omega
        have k2 : kk + 1 + 2 * ((nd ns j).us.length : Int) + 1 ≤ 1000000000 := by omega
        rw [hkk]
        clear ht n0 n1 n2 hkk HE HL hle hle2
        have i1 : (0 : Int) ≤ (j : Int) := by omega
        have i2 : (j : Int) < (ns.length : Int) := by omega
        have s2 := (s1.rowSet (j * 3) (.int .i64 kk)).at1
        rcases hN : nd ns j with ⟨p, y, c, us, q⟩
        rw [hN] at cd ce cf hul k2 HV s2
        dsimp only [logRes] at cd ce cf hul k2 HV s2
        clear hN s1
        go_wp2_with fail
        refine (markUpdateS_st y us.length c (kk + 1) _ s2 hul (by omega) (by omega)).mono ?_
        rintro e w2 ⟨rfl, s3⟩
        have s4 := s3.at1
        have ff := s4.own.frozenAt (j * 3 + 2)
        have cf2 := s4.own.cellAt (j * 3 + 2) (by omega)
        rw [List.getElem?_set_ne (by omega), HT.out _ (by omega), (ncells_at ns j hlt).2.2] at cf2
        have s5 := s4.rowSet (j * 3 + 2) (.int .i64 (kk + 1 + 2 * us.length))
        have FIN := Lib.hid (s5.perm (mark_perm _ _ _ _))
        clear s2 s3 s4 s5 cd ce cf fd
        go_wp2_with fail
        go_roundw
        case rel => exact ⟨j + 1, _, _ :: A, hlt, by go_num, by rw [← HV.out], fun o ho => by rw [List.getElem?_set_ne (by omega), List.getElem?_set_ne (by omega)]; exact HT.out o (by omega), FIN.out⟩
        case measure => simp [intOf]; omega
      · go_wp2_with fail
        go_ret
        exact ⟨_, rfl, by omega, row (.slice (some ⟨g, 0, none⟩) ns.length cap) 32 3 ns.length cs :: (nds (ns.drop j) ++ A), by rw [List.cons_append, List.append_assoc]; exact s1⟩
  · have e0 : ns = [] := List.eq_nil_of_length_eq_zero (by omega)
    subst e0
    go_enter Try.func57, Try.ntmps57
    go_wp2_with fail
    go_loop [1, 5] (fun kk i => i = .int .i64 0 ∧ kk = .int .i64 k) (fun _ _ => 0)
    case atStart => exact ⟨rfl, rfl⟩
    case round =>
      obtain ⟨rfl, rfl⟩ := hrel
      go_wp2_with fail
      go_ret
      exact ⟨_, rfl, hk0, [_], h⟩

theorem markChain_st {w0 w : World} {rs : List Res} (view : Int) (a : Option Addr) (cap : Nat) (ns : List Nd) (k : Int) (h : St w0 w (row (.slice a ns.length cap) 32 3 ns.length (ncells ns) :: (nds ns ++ rs))) (hm : ns.length ≤ 2097152) (hu : ∀ n ∈ ns, n.us.length ≤ 2097152) (hk0 : 0 ≤ k) (hk : k + 2 * ns.length + 2 * lensN ns ≤ 1000000000) :
    Calls Try.prog 34 #[.agg #[.int .i64 view, .slice a ns.length cap], .int .i64 k] w fun e w' => ∃ v : Int, e = .returned (.int .i64 v) ∧ 0 ≤ v ∧ ∃ X, St w0 w' (X ++ rs) := by
  have s1 := (h.alloc (.cells #[.int .i64 view, .slice a ns.length cap] 25)).drop
  go_enter Try.func34, Try.ntmps34
  go_wp2_with fail
  refine (markNodeS_st _ _ _ _ s1 hm hu hk0 hk).mono ?_
  rintro e w1 ⟨v, rfl, hv, X, s2⟩
  go_wp2_with fail
  go_ret
  exact ⟨_, rfl, hv, X, s2⟩

end Go.Proofs.Ytgpnbcdboofikaa
