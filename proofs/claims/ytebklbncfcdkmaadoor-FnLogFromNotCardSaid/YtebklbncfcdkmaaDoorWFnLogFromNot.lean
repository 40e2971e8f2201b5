
/-
  The walk of FnLogFromNot.
-/
import Derived.Test.YtebklbncfcdkmaaDoorYK
import Derived.Test.YtebklbncfcdkmaaDoorYL
import Derived.Test.YtebklbncfcdkmaaDoorSb
import Derived.Test.YtebklbncfcdkmaaDoorOp8
namespace Go.Proofs.YtebklbncfcdkmaaDoor.fnLogFromNot
open Go.RowKit Go.Proofs.YtebklbncfcdkmaaDoor

theorem dec_pos (n : Nat) : 0 < (Lib.decDigits n).length := by
  by_cases h : n < 10
  · rw [Lib.decDigits_one h]; simp
  · rw [Lib.decDigits, dif_neg h]; simp
theorem joinT_last (us : List Upd) (h : us ≠ []) : ∃ p c, joinT us us.length = p ++ [c] ∧ isDig c := by
  obtain ⟨k, hk⟩ : ∃ k, us.length = k + 1 := ⟨us.length - 1, by have := List.length_pos_iff.2 h; omega⟩
  rw [hk]
  have hd : Lib.decDigits (us.getD k (0, 0)).2.toNat ≠ [] := fun e => by
    have := dec_pos (us.getD k (0, 0)).2.toNat
    rw [e] at this
    simp at this
  refine ⟨(if 0 < k then joinT us k ++ [44] else joinT us k) ++ ((Lib.decDigits (us.getD k (0, 0)).1.toNat ++ [61]) ++ (Lib.decDigits (us.getD k (0, 0)).2.toNat).dropLast), (Lib.decDigits (us.getD k (0, 0)).2.toNat).getLast hd, ?_, dec_digs _ _ (List.getLast_mem hd)⟩
  rw [joinT, updT]
  simp only [List.append_assoc]
  rw [List.dropLast_concat_getLast hd]
theorem joinT_first (us : List Upd) (h : us ≠ []) : ∃ c p, joinT us us.length = c :: p ∧ isDig c := by
  match us, h with
  | u :: r, _ =>
    have hd : Lib.decDigits u.1.toNat ≠ [] := fun e => by
      have := dec_pos u.1.toNat
      rw [e] at this
      simp at this
    rw [List.length_cons, joinT_joinC]
    obtain ⟨c, q, hc⟩ := List.exists_cons_of_ne_nil hd
    have hcd : isDig c := dec_digs u.1.toNat c (by rw [hc]; simp)
    cases r with
    | nil => exact ⟨c, _, by simp only [List.map_cons, List.map_nil, joinC, updT, hc, List.cons_append]; rfl, hcd⟩
    | cons v s => exact ⟨c, _, by simp only [List.map_cons, joinC, updT, hc, List.cons_append]; rfl, hcd⟩
theorem isLog_len {L : List UInt8} {us : List Upd} (h : IsLog L us) : L.length ≤ 1452 := by rw [← h.2]; exact logT_length us h.1
theorem not_comma {L : List UInt8} {us : List Upd} (_ : IsLog L us) : ∀ vs, ¬ IsLog (L ++ [44]) vs := by
  rintro vs ⟨_, h⟩
  by_cases hv : vs = []
  · subst hv
    have := congrArg List.getLast? h
    rw [List.getLast?_append] at this
    cases this
  · rw [logT_some hv] at h
    obtain ⟨p, c, hp, hc⟩ := joinT_last vs hv
    rw [hp] at h
    have := (List.append_inj' h rfl).2
    rw [List.cons.injEq] at this
    exact dig_ne hc 44 (by decide) this.1
theorem not_blank {L : List UInt8} {us : List Upd} (_ : IsLog L us) : ∀ vs, ¬ IsLog ([32] ++ L) vs := by
  rintro vs ⟨_, h⟩
  by_cases hv : vs = []
  · subst hv
    cases h
  · rw [logT_some hv] at h
    obtain ⟨c, p, hp, hc⟩ := joinT_first vs hv
    rw [hp] at h
    have : c = 32 := (List.cons.inj h).1
    exact dig_ne hc 32 (by decide) this

set_option maxRecDepth 100000 in
set_option maxHeartbeats 4000000 in
theorem walk (v0 : Value) (w : World) (hD : Door w) (h0 : IsCodeV w v0) :
    Calls Tryd.prog 12 #[v0] w fun e w' => e = .returned (.bool true) ∧ Below w.heap.size w w' := by
  obtain ⟨a0, len0, cap0, z0, rfl, w0⟩ := h0
  have hle := w0.le
  have hby := w0.bytes
  clear w0
  by_cases hbig : len0 ≤ 1048576
  · go_enter Tryd.func12, Tryd.ntmps12
    go_wp2_with fail
    refine (drawLogFrom_calls _ _ _ _ hle.1 hle.2 hby).mono ?_
    rintro e w1 ⟨S, rfl, hz, hb1⟩
    have D1 := hD.below hb1
    have HD := Lib.hid D1
    have IM := Lib.hid (logFrom_calls S w1 (by omega) D1.max D1.err)
    have SP := Lib.hid (fun W => specLogFrom_calls S W (by omega))
    have HB := Lib.hid (fun W R (k : St w1 W R) => hb1.trans (k.below.mono hb1.size))
    clear hby hb1 hD D1
    go_wp2_with fail
    refine IM.out.mono ?_
    rintro e w2 ⟨v, us, ok, rfl, hf, hul, s2⟩
    go_wp2_with fail
    refine (SP.out _).mono ?_
    rintro e w3 ⟨v', us', ok', rfl, hf', hul', ss⟩
    obtain ⟨rfl, rfl⟩ := hf.eq hf'
    have s3 := s2.join ss
    obtain ⟨a2, cap2, rfl, hx2⟩ := own_cells s3.at1.own
    obtain ⟨a3, cap3, rfl, hx3⟩ := own_cells s3.own
    have FL := Lib.hid hf
    clear hf hf' hul' ss s2
    have hm1 : us.length ≤ 1099511627776 := by omega
    have SL := Lib.hid (fun W (h : Below w3.heap.size w3 W) => sameLog_eq a3 a2 cap3 cap2 us W hm1 (UpdsAt.below hx3 h) (UpdsAt.below hx2 h))
    have SL' := Lib.hid (fun W (h : Below w3.heap.size w3 W) => sameLog_eq a2 a3 cap2 cap3 us W hm1 (UpdsAt.below hx2 h) (UpdsAt.below hx3 h))
    have F3 := Lib.hid (fun W (h : Below w3.heap.size w3 W) => HB.out _ _ (s3.call h))
    have HX2 := Lib.hid hx2
    have HD3 := Lib.hid (HD.out.below s3.below)
    clear hx2 hx3 s3
    cases ok with
    | false =>
      clear FL HX2
      go_wp2_with fail
      refine (SL'.out _ (Below.refl _ _)).mono ?_
      rintro e w4 ⟨rfl, hb4⟩
      have HB4 := Lib.hid hb4
      clear hb4
      go_wp2_with fail
      refine (SL'.out _ HB4.out).mono ?_
      rintro e w5 ⟨rfl, hb5⟩
      have F := Lib.hid (F3.out _ (HB4.out.trans (hb5.mono HB4.out.size)))
      clear hb5
      go_wp2_with fail
      go_ret
      exact ⟨rfl, F.out⟩
    | true =>
      have hil := FL.out.1 rfl
      have hlen := isLog_len hil
      have hdl : (⟨S.data.toList.toArray⟩ : ByteArray) = S := ByteArray.ext (by simp)
      have N1 := Lib.hid (not_comma hil)
      have N2 := Lib.hid (not_blank hil)
      obtain ⟨S1, hS1⟩ : ∃ T : ByteArray, (⟨(S.data.toList ++ [44]).toArray⟩ : ByteArray) = T := ⟨_, rfl⟩
      obtain ⟨S2, hS2⟩ : ∃ T : ByteArray, (⟨([32] ++ S.data.toList).toArray⟩ : ByteArray) = T := ⟨_, rfl⟩
      have cat1 := cat_run (P := Tryd.prog) S.data.toList [44] (by simp; omega)
      have cat2 := cat_run (P := Tryd.prog) [32] S.data.toList (by simp; omega)
      rw [hS1, hdl] at cat1
      rw [hS2, hdl] at cat2
      have D1 : S1.data.toList = S.data.toList ++ [44] := by rw [← hS1]
      have D2 : S2.data.toList = [32] ++ S.data.toList := by rw [← hS2]
      have z1 : S1.size ≤ 2097152 := by
        rw [show S1.size = S1.data.toList.length by simp, D1, List.length_append, List.length_singleton]; omega
      have z2 : S2.size ≤ 2097152 := by
        rw [show S2.size = S2.data.toList.length by simp, D2, List.length_append, List.length_singleton]; omega
      have L1 := Lib.hid (fun W (h : Door W) => logFrom_calls S1 W z1 h.max h.err)
      have L2 := Lib.hid (fun W (h : Door W) => logFrom_calls S2 W z2 h.max h.err)
      rw [D1] at L1
      rw [D2] at L2
      clear FL HX2 hil hlen hdl hS1 hS2 D1 D2 z1 z2
      go_wp2_with fail
      refine (SL'.out _ (Below.refl _ _)).mono ?_
      rintro e w4 ⟨rfl, hb4⟩
      have HB4 := Lib.hid hb4
      clear hb4
      go_wp2_with fail
      refine (L1.out _ ((HD3.out).below HB4.out)).mono ?_
      rintro e w5 ⟨v5, us5, ok5, rfl, hf5, _, s5⟩
      obtain rfl : ok5 = false := by
        cases ok5 with
        | false => rfl
        | true => exact absurd (hf5.1 rfl) (N1.out us5)
      have HB5 := Lib.hid (HB4.out.trans (s5.below.mono HB4.out.size))
      clear hf5 s5
      go_wp2_with fail
      refine (L2.out _ ((HD3.out).below HB5.out)).mono ?_
      rintro e w6 ⟨v6, us6, ok6, rfl, hf6, _, s6⟩
      obtain rfl : ok6 = false := by
        cases ok6 with
        | false => rfl
        | true => exact absurd (hf6.1 rfl) (N2.out us6)
      have F := Lib.hid (F3.out _ (HB5.out.trans (s6.below.mono HB5.out.size)))
      clear hf6 s6
      go_wp2_with fail
      go_ret
      exact ⟨rfl, F.out⟩
  · go_enter Tryd.func12, Tryd.ntmps12
    go_wp2_with fail
    go_ret
    exact ⟨rfl, Below.refl _ _⟩
end Go.Proofs.YtebklbncfcdkmaaDoor.fnLogFromNot
