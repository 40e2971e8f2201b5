
/-
  Numbers as decimals: what l6Dec makes. No condition but the number's size.
-/
import Derived.Test.YtebklbncfcdkmaaDoorMx
import Derived.Laws.IdiomStrings
import Derived.Lib.ItoaNum
import Derived.Laws.Concat
namespace Go.Proofs.YtebklbncfcdkmaaDoor
open Go.RowKit

/-- The text of one byte. -/
theorem one_byte (w : World) (g cap : Nat) (x : Int) (c : UInt8) (hx : UInt8.ofNat x.toNat = c) (h0 : 0 ≤ x) (hd : x < 256) (hc : w.cell? ⟨g, 0, none⟩ = some (.int .u8 x)) :
    (convert 35 9 (.slice (some ⟨g, 0, none⟩) 1 cap)).run Tryd.prog w = .ok (.string ⟨#[c]⟩) w := by
  subst hx
  have h := run_convert_bytes_back (P := Tryd.prog) w 35 9 5 ⟨g, 0, none⟩ cap [UInt8.ofNat x.toNat] Tryd.underlying35 Tryd.underlying5 Tryd.underlying9 (fun j hj => by
    obtain rfl : j = 0 := by simpa using hj
    rw [show (⟨g, 0, none⟩ : Addr).add 0 = ⟨g, 0, none⟩ from rfl, hc]
    have e : x.toNat % 256 = x.toNat := Nat.mod_eq_of_lt (by omega)
    simp [e]
    omega)
  simpa using h
theorem cat_run {P : Program} (x y : List UInt8) (h : x.length + y.length ≤ 9223372036854775807) (W : World) : (Op.stringOp .add ⟨x.toArray⟩ ⟨y.toArray⟩).run P W = .ok (.string ⟨(x ++ y).toArray⟩) W := by
  rw [run_string_add_sum W _ _ (by simp [ByteArray.size]; omega), ByteArray.mk_append_mk]
theorem dec_length : ∀ n : Nat, (Lib.decDigits n).length ≤ n + 1 := by
  intro n
  induction n using Nat.strongRecOn with
  | ind n ih =>
    by_cases h : n < 10
    · rw [Lib.decDigits_one h]; simp
    · rw [Lib.decDigits, dif_neg h]
      have := ih (n / 10) (by omega)
      simp
      omega
theorem alloc_cell (w : World) (v : Value) (t : TypeId) : (w.alloc (.cells #[v] t)).cell? ⟨w.heap.size, 0, none⟩ = some v := by
  rw [cell_of_heap (heap_alloc_new w (.cells #[v] t))]; rfl

set_option maxRecDepth 100000 in
set_option maxHeartbeats 2000000 in
theorem l6Dec_calls : ∀ (n : Nat), n < 4611686018427387904 → ∀ w, Calls Tryd.prog 52 #[.int .i64 n] w fun e w' => e = .returned (.string ⟨(Lib.decDigits n).toArray⟩) ∧ Below w.heap.size w w' := by
  intro n
  induction n using Nat.strongRecOn with
  | ind n ih =>
    intro hn w
    have a1 : ¬ ((n : Int) < -9223372036854775807) := by omega
    have a2 : ¬ ((n : Int) < 0) := by omega
    by_cases h : n < 10
    · have a3 : (n : Int) < 10 := by omega
      obtain ⟨c, hc⟩ : ∃ c, UInt8.ofNat (48 + n) = c := ⟨_, rfl⟩
      have ob := one_byte (w.alloc (.cells #[.int .u8 (48 + n)] 5)) w.heap.size 1 (48 + n) c (by rw [show (48 + (n : Int)).toNat = 48 + n by omega]; exact hc) (by omega) (by omega) (alloc_cell _ _ _)
      have bel := Lib.hid ((Below.refl w.heap.size w).alloc (Nat.le_refl _) (.cells #[.int .u8 (48 + n)] 5))
      have fin : (⟨#[c]⟩ : ByteArray) = ⟨(Lib.decDigits n).toArray⟩ := by rw [Lib.decDigits_one h, ← hc]
      have FIN := Lib.hid fin
      clear fin hc
      go_enter Tryd.func52, Tryd.ntmps52
      go_wp2_with fail
      exact bodyPost_ret (v := .string ⟨#[c]⟩) (by simp [results, Tryd.results52, go_sem]) rfl ⟨by rw [FIN.out], bel.out⟩
    · have a3 : ¬ ((n : Int) < 10) := by omega
      obtain ⟨m, hm⟩ : ∃ m, n / 10 = m := ⟨_, rfl⟩
      obtain ⟨d, hd⟩ : ∃ d, n % 10 = d := ⟨_, rfl⟩
      have q1 : Int.tdiv n 10 = (m : Int) := by rw [Int.tdiv_eq_ediv_of_nonneg (by omega)]; omega
      have q2 : Int.tmod n 10 = (d : Int) := by rw [Int.tmod_eq_emod_of_nonneg (by omega)]; omega
      have d10 : d < 10 := by omega
      have q3 : wrap64 (m : Int) = m := by unfold wrap64; omega
      obtain ⟨c, hcc⟩ : ∃ c, UInt8.ofNat (48 + d) = c := ⟨_, rfl⟩
      have HCC := Lib.hid hcc
      have cat := cat_run (P := Tryd.prog) (Lib.decDigits m) [c] (by have := dec_length m; simp; omega)
      have IH := ih m (by omega) (by omega)
      have fin : (⟨(Lib.decDigits m ++ [c]).toArray⟩ : ByteArray) = ⟨(Lib.decDigits n).toArray⟩ := by
        conv => rhs; rw [Lib.decDigits, dif_neg h, hm, hd]
        rw [← hcc]
      have FIN := Lib.hid fin
      clear fin ih hm hd hcc
      go_enter Tryd.func52, Tryd.ntmps52
      go_wp2_with fail
      obtain ⟨S, hS⟩ := Mix.named (fun w' => Below w.heap.size w w')
      have HS := Lib.hid hS
      clear hS
      have s1 : Below w.heap.size w w.drew := (Below.refl w.heap.size w).drew
      refine Mix.start S 11 (by kernel_rfl) ?_
      refine Mix.take [0, 1, 3, 4, 5, 6] 5 (by kernel_rfl) (by kernel_rfl) (by kernel_rfl) (by intro c a a' w e h; exact ⟨e.symm.trans h.1, h.2⟩) ((HS.out _).2 s1) ?_
      intro hne
      simp only [Mix.pickOps, List.filterMap_cons, List.filterMap_nil, List.getElem?_toArray, List.getElem?_cons_zero, List.getElem?_cons_succ]
      repeat (refine Mix.cons_form ?_; go_big_quiet_step (fail))
      refine wpQuiet_nil ?_
      clear hne
      refine Mix.fork (i := 2) (j := 7) (by kernel_rfl) rfl rfl rfl rfl ?_ ?_
      · go_simp
        refine (IH _).mono ?_
        rintro e w2 ⟨rfl, b2⟩
        have s2 := s1.trans (b2.mono s1.size)
        refine And.intro ((HS.out _).2 s2) ?_
        have ob := one_byte (w2.alloc (.cells #[.int .u8 (48 + d)] 5)) w2.heap.size 1 (48 + d) c (by rw [show (48 + (d : Int)).toNat = 48 + d by omega]; exact HCC.out) (by omega) (by omega) (alloc_cell _ _ _)
        have s3 := s2.alloc s2.size (.cells #[.int .u8 (48 + d)] 5)
        refine Mix.step (i := 7) (by kernel_rfl) rfl rfl ?_
        go_simp
        refine And.intro ((HS.out _).2 s3) ?_
        refine Mix.step (i := 8) (by kernel_rfl) rfl rfl ?_
        go_simp
        refine And.intro ((HS.out _).2 s3) ?_
        refine Mix.step (i := 9) (by kernel_rfl) rfl rfl ?_
        go_simp
        refine And.intro ((HS.out _).2 s3) ?_
        refine Mix.step (i := 10) (by kernel_rfl) rfl rfl ?_
        go_simp
        refine And.intro ((HS.out _).2 s3) ?_
        have F3 := Lib.hid s3
        clear s1 s2 s3 ob
        refine Mix.done (by kernel_rfl) ?_
        go_wp2_with fail
        exact bodyPost_ret (v := .string ⟨(Lib.decDigits m ++ [c]).toArray⟩) (by simp [results, Tryd.results52, go_sem]) rfl ⟨by rw [FIN.out], F3.out⟩
      · have ob := one_byte (w.alloc (.cells #[.int .u8 (48 + d)] 5)).drew w.heap.size 1 (48 + d) c (by rw [show (48 + (d : Int)).toNat = 48 + d by omega]; exact HCC.out) (by omega) (by omega) (by rw [World.cell?_drew]; exact alloc_cell _ _ _)
        have s2 := ((Below.refl w.heap.size w).alloc (Nat.le_refl _) (.cells #[.int .u8 (48 + d)] 5)).drew
        have hc : (w.alloc (.cells #[.int .u8 (48 + d)] 5)).drew.cell? ⟨w.heap.size, 0, none⟩ = some (.int .u8 (48 + d)) := by rw [World.cell?_drew]; exact alloc_cell _ _ _
        have HC := Lib.hid hc
        clear hc
        go_simp
        refine And.intro ((HS.out _).2 s2) ?_
        refine Mix.fork (i := 2) (j := 8) (by kernel_rfl) rfl rfl rfl rfl ?_ ?_
        · go_simp
          refine (IH _).mono ?_
          rintro e w2 ⟨rfl, b2⟩
          have s3 := s2.trans (b2.mono s2.size)
          refine And.intro ((HS.out _).2 s3) ?_
          have ob := one_byte w2 w.heap.size 1 (48 + d) c (by rw [show (48 + (d : Int)).toNat = 48 + d by omega]; exact HCC.out) (by omega) (by omega) ((b2.cell (p := ⟨w.heap.size, 0, none⟩) (by show w.heap.size < (w.heap.push _).size; rw [Array.size_push]; exact Nat.lt_succ_self _)).trans HC.out)
          refine Mix.step (i := 8) (by kernel_rfl) rfl rfl ?_
          go_simp
          refine And.intro ((HS.out _).2 s3) ?_
          refine Mix.step (i := 9) (by kernel_rfl) rfl rfl ?_
          go_simp
          refine And.intro ((HS.out _).2 s3) ?_
          refine Mix.step (i := 10) (by kernel_rfl) rfl rfl ?_
          go_simp
          refine And.intro ((HS.out _).2 s3) ?_
          have F3 := Lib.hid s3
          clear s1 s2 s3 ob
          refine Mix.done (by kernel_rfl) ?_
          go_wp2_with fail
          exact bodyPost_ret (v := .string ⟨(Lib.decDigits m ++ [c]).toArray⟩) (by simp [results, Tryd.results52, go_sem]) rfl ⟨by rw [FIN.out], F3.out⟩
        · go_simp
          refine And.intro ((HS.out _).2 s2) ?_
          refine Mix.step (i := 2) (by kernel_rfl) rfl rfl ?_
          go_simp
          refine (IH _).mono ?_
          rintro e w2 ⟨rfl, b2⟩
          have s3 := s2.trans (b2.mono s2.size)
          refine And.intro ((HS.out _).2 s3) ?_
          refine Mix.step (i := 9) (by kernel_rfl) rfl rfl ?_
          go_simp
          refine And.intro ((HS.out _).2 s3) ?_
          refine Mix.step (i := 10) (by kernel_rfl) rfl rfl ?_
          go_simp
          refine And.intro ((HS.out _).2 s3) ?_
          have F3 := Lib.hid s3
          clear s1 s2 s3 ob
          refine Mix.done (by kernel_rfl) ?_
          go_wp2_with fail
          exact bodyPost_ret (v := .string ⟨(Lib.decDigits m ++ [c]).toArray⟩) (by simp [results, Tryd.results52, go_sem]) rfl ⟨by rw [FIN.out], F3.out⟩
end Go.Proofs.YtebklbncfcdkmaaDoor
