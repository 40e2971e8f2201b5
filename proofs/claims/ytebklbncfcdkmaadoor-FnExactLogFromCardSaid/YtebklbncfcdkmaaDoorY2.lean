
/-
  An update as a text: the program's and the reference's. No condition.
-/
import Derived.Test.YtebklbncfcdkmaaDoorY1
import Derived.Test.YtebklbncfcdkmaaDoorSh
import Derived.Test.YtebklbncfcdkmaaDoorU2
namespace Go.Proofs.YtebklbncfcdkmaaDoor
open Go.RowKit

def updT (u : Upd) : List UInt8 := (Lib.decDigits u.1.toNat ++ [61]) ++ Lib.decDigits u.2.toNat
def updText (u : Upd) : List UInt8 := if updOk u = true then updT u else []
theorem updT_length {u : Upd} (h : updOk u = true) : (updT u).length ≤ 120 := by
  have := updOk_yes h
  have h1 := dec_length u.1.toNat
  have h2 := dec_length u.2.toNat
  simp [updT]; omega
theorem updText_length (u : Upd) : (updText u).length ≤ 120 := by
  unfold updText
  split
  · rename_i h; exact updT_length h
  · simp

set_option maxRecDepth 100000 in
set_option maxHeartbeats 1000000 in
theorem l41Update_calls (k v : Int) (h : updOk (k, v) = true) (w : World) :
    Calls Tryd.prog 39 #[.agg #[.int .i64 k, .int .i64 v]] w fun e w' => e = .returned (.string ⟨(updT (k, v)).toArray⟩) ∧ Below w.heap.size w w' := by
  have hu := updOk_yes h
  obtain ⟨k, rfl⟩ : ∃ n : Nat, k = n := ⟨k.toNat, by omega⟩
  obtain ⟨v, rfl⟩ : ∃ n : Nat, v = n := ⟨v.toNat, by omega⟩
  have fin : (Lib.decDigits k ++ [61]) ++ Lib.decDigits v = updT (k, v) := by simp [updT]
  have s0 := (St.start w).alloc (.cells #[.int .i64 k, .int .i64 v] 25)
  have c0 := s0.cells.1
  have k0 := (c0 0).trans (show _ = some (Value.int .i64 k) from rfl)
  have k1 := (c0 1).trans (show _ = some (Value.int .i64 v) from rfl)
  have l1 := dec_length k
  have l2 := dec_length v
  have cat1 := cat_run (P := Tryd.prog) (Lib.decDigits k) [61] (by simp; omega)
  have cat2 := cat_run (P := Tryd.prog) (Lib.decDigits k ++ [61]) (Lib.decDigits v) (by simp; omega)
  have hk : k < 100 := by omega
  have hv : v < 100 := by omega
  have FIN := Lib.hid fin
  have g0 := grow_cell k0
  have g1 := grow_cell k1
  have HG := Lib.hid (fun x => s0.call (grow_below x))
  clear c0 k0 k1 s0 fin h hu l1 l2
  go_enter Tryd.func39, Tryd.ntmps39
  go_wp2_with fail
  refine wp_region_grow (by kernel_rfl) (by kernel_rfl) ?_
  repeat (go_big_quiet_step (((go_at_call 52; exact Calls.grow_of (l6Dec_calls _ (by omega) _)))))
  refine wpQuiet_nil ?_
  rintro _ ⟨x, rfl⟩
  go_wp2_with fail
  exact bodyPost_ret (v := .string ⟨((Lib.decDigits k ++ [61]) ++ Lib.decDigits v).toArray⟩) (by simp [results, Tryd.results39, go_sem]) rfl ⟨by rw [FIN.out], (HG.out _).below⟩

set_option maxRecDepth 100000 in
set_option maxHeartbeats 1000000 in
theorem specUpdateText_calls (k v : Int) (w : World) :
    Calls Tryd.prog 14 #[.agg #[.int .i64 k, .int .i64 v]] w fun e w' => e = .returned (.string ⟨(updText (k, v)).toArray⟩) ∧ Below w.heap.size w w' := by
  have s0 := (St.start w).alloc (.cells #[.int .i64 k, .int .i64 v] 25)
  go_enter Tryd.func14, Tryd.ntmps14
  go_wp2_with fail
  refine (specUpdateValid_calls _ _ _).mono ?_
  rintro e w1 ⟨rfl, hb⟩
  have s1 := s0.call hb
  obtain ⟨c, f⟩ := s1.cells
  cases h : updOk (k, v) with
  | false =>
    have FIN : Hid (updText (k, v) = []) := Lib.hid (by simp [updText, h])
    go_wp2_with fail
    exact bodyPost_ret (v := .string ⟨#[]⟩) (by simp [results, Tryd.results14, go_sem]) rfl ⟨by rw [FIN.out], s1.below⟩
  | true =>
    have FIN : Hid (updText (k, v) = updT (k, v)) := Lib.hid (by simp [updText, h])
    have L := Lib.hid (l41Update_calls k v h)
    clear h
    go_wp2_with fail
    refine (L.out _).mono ?_
    rintro e w2 ⟨rfl, hb2⟩
    have s2 := s1.call hb2
    go_wp2_with fail
    exact bodyPost_ret (v := .string ⟨(updT (k, v)).toArray⟩) (by simp [results, Tryd.results14, go_sem]) rfl ⟨by rw [FIN.out], s2.below⟩

set_option maxRecDepth 100000 in
set_option maxHeartbeats 1000000 in
theorem updateValid_calls (k v : Int) (w : World) :
    Calls Tryd.prog 40 #[.agg #[.int .i64 k, .int .i64 v]] w fun e w' => e = .returned (.bool (updOk (k, v))) ∧ Below w.heap.size w w' := by
  have s0 := (St.start w).alloc (.cells #[.int .i64 k, .int .i64 v] 25)
  have c := s0.cells.1
  go_enter Tryd.func40, Tryd.ntmps40
  go_wp2_with fail
  refine (valid_calls _ _ _).mono ?_
  rintro e w1 ⟨rfl, hb⟩
  have s1 := s0.call hb
  go_wp2_with fail
  go_ret
  exact ⟨rfl, s1.below⟩

set_option maxRecDepth 100000 in
set_option maxHeartbeats 1000000 in
theorem updateText_calls (k v : Int) (w : World) :
    Calls Tryd.prog 16 #[.agg #[.int .i64 k, .int .i64 v]] w fun e w' => e = .returned (.string ⟨(updText (k, v)).toArray⟩) ∧ Below w.heap.size w w' := by
  have s0 := (St.start w).alloc (.cells #[.int .i64 k, .int .i64 v] 25)
  go_enter Tryd.func16, Tryd.ntmps16
  go_wp2_with fail
  refine (updateValid_calls _ _ _).mono ?_
  rintro e w1 ⟨rfl, hb⟩
  have s1 := s0.call hb
  obtain ⟨c, f⟩ := s1.cells
  cases h : updOk (k, v) with
  | false =>
    have FIN : Hid (updText (k, v) = []) := Lib.hid (by simp [updText, h])
    go_wp2_with fail
    exact bodyPost_ret (v := .string ⟨#[]⟩) (by simp [results, Tryd.results16, go_sem]) rfl ⟨by rw [FIN.out], s1.below⟩
  | true =>
    have fin : updText (k, v) = updT (k, v) := by simp [updText, h]
    have hu := updOk_yes h
    obtain ⟨k, rfl⟩ : ∃ n : Nat, k = n := ⟨k.toNat, by omega⟩
    obtain ⟨v, rfl⟩ : ∃ n : Nat, v = n := ⟨v.toNat, by omega⟩
    rw [show updT ((k : Int), (v : Int)) = (Lib.decDigits k ++ [61]) ++ Lib.decDigits v by simp [updT]] at fin
    have k0 := (c 0).trans (show _ = some (Value.int .i64 k) from rfl)
    have k1 := (c 1).trans (show _ = some (Value.int .i64 v) from rfl)
    have l1 := dec_length k
    have l2 := dec_length v
    have cat1 := cat_run (P := Tryd.prog) (Lib.decDigits k) [61] (by simp; omega)
    have cat2 := cat_run (P := Tryd.prog) (Lib.decDigits k ++ [61]) (Lib.decDigits v) (by simp; omega)
    have hk : k < 100 := by omega
    have hv : v < 100 := by omega
    have FIN := Lib.hid fin
    have g0 := grow_cell k0
    have g1 := grow_cell k1
    have HG := Lib.hid (fun x => s1.call (grow_below x))
    clear c k0 k1 s0 s1 fin h hu l1 l2
    go_wp2_with fail
    refine wp_region_grow (by kernel_rfl) (by kernel_rfl) ?_
    repeat (go_big_quiet_step (((go_at_call 41; exact Calls.grow_same ((Tryd.strconv_Itoa_small _ (by omega) _).mono fun _ _ h => ⟨h.1, h.2.symm⟩)))))
    refine wpQuiet_nil ?_
    rintro _ ⟨x, rfl⟩
    go_wp2_with fail
    exact bodyPost_ret (v := .string ⟨((Lib.decDigits k ++ [61]) ++ Lib.decDigits v).toArray⟩) (by simp [results, Tryd.results16, go_sem]) rfl ⟨by rw [FIN.out], (HG.out _).below⟩

end Go.Proofs.YtebklbncfcdkmaaDoor
