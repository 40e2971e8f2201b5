
/-
  The walks of errors.As at the program's own error and of the program's LogFrom; what a row's condition and the world's shape give them. Conditions: the text's length; the library's variables hold what the row says.
-/
import Derived.Test.YtebklbncfcdkmaaDoorYH
import Derived.LaidSub
import Derived.Shelf.Vars
namespace Go.Proofs.YtebklbncfcdkmaaDoor
open Go.RowKit

theorem m_assign (n : Nat) (x : Value) (w : World) : (method (n + 1) 127 (.agg #[x]) "AssignableTo").run Tryd.prog w = .ok (141, .agg #[x]) w := by kernel_rfl
theorem m_elem (n : Nat) (x : Value) (w : World) : (method (n + 1) 127 (.agg #[x]) "Elem").run Tryd.prog w = .ok (143, .agg #[x]) w := by kernel_rfl
theorem m_impl (n : Nat) (x : Value) (w : World) : (method (n + 1) 127 (.agg #[x]) "Implements").run Tryd.prog w = .ok (144, .agg #[x]) w := by kernel_rfl

set_option maxRecDepth 100000 in
set_option maxHeartbeats 4000000 in
theorem as_st {w0 w : World} {rs : List Res} (i : Int) (B A : Nat) (u : Int) (h : St w0 w (box B #[.int .i64 u] 83 :: box A #[.pointer (some ⟨B, 0, none⟩)] 85 :: rs)) :
    Calls Tryd.prog 82 #[.iface 83 (.agg #[.int .i64 i]), .iface 85 (.pointer (some ⟨B, 0, none⟩)), .agg #[hdl 85, .pointer (some ⟨A, 0, none⟩), .int .u64 150], rty 83] w
      fun e w' => e = .returned (.bool true) ∧ St w0 w' (box B #[.int .i64 i] 83 :: box A #[.pointer (some ⟨B, 0, none⟩)] 85 :: rs) := by
  have hto := typeOf_err i
  have has := assignable_err
  have hm := m_assign
  have s1 := h.alloc (.cells #[hdl 85, .pointer (some ⟨A, 0, none⟩), .int .u64 150] 112)
  have s2 := s1.alloc (.cells #[.int .i64 i] 83)
  have hel := elem_val ⟨A, 0, none⟩ ⟨B, 0, none⟩ _ ((s1.at2.cells.1 0).trans rfl)
  have hvo := valueOf_err i
  have hset := set_err i B _ _ ((s2.cells.1 0).trans rfl) (.int .i64 u) ((s2.at2.cells.1 0).trans rfl) (s2.at2.cells.2 0)
  have s3 := (s2.at2.set 0 (.int .i64 i))
  have FIN := Lib.hid (s3.under (fun k => k.drop.drop) (fun z hz => List.mem_cons_of_mem _ (List.mem_cons_of_mem _ hz)))
  simp only [World.size_alloc] at hset
  clear s1 s2 s3
  go_enter Tryd.func82, Tryd.ntmps82
  go_wp2_with fail
  refine wp_loop_rounds 1 ?_
  rw [rounds_succ]
  go_wp2_with fail
  go_ret
  exact ⟨rfl, FIN.out⟩

theorem m_kind (n : Nat) (x : Value) (w : World) : (method (n + 2) 127 (.agg #[x]) "Kind").run Tryd.prog w = .ok (132, x) w := by kernel_rfl
theorem kind_target (w : World) : (callFunc 132 #[hdl 85]).run Tryd.prog w = .ok (.value (.int .u8 22)) w := by kernel_rfl
theorem kind_err (w : World) : (callFunc 132 #[hdl 83]).run Tryd.prog w = .ok (.value (.int .u8 25)) w := by kernel_rfl
/-- The library's variable errors.errorType holds the handle of error. -/
def ErrType (w : World) : Prop := w.cell? ⟨0, 0, none⟩ = some (rty 66)
theorem ErrType.below {w w' : World} (h : ErrType w) (hb : Below w.heap.size w w') : ErrType w' := by
  unfold ErrType at h ⊢
  rw [hb.cell (p := ⟨0, 0, none⟩) (lt_of_cell h)]; exact h

set_option maxRecDepth 100000 in
set_option maxHeartbeats 4000000 in
theorem errorsAs_st {w0 w : World} {rs : List Res} (i : Int) (B : Nat) (u : Int) (hE : ErrType w) (h : St w0 w (box B #[.int .i64 u] 83 :: rs)) :
    Calls Tryd.prog 58 #[.iface 83 (.agg #[.int .i64 i]), .iface 85 (.pointer (some ⟨B, 0, none⟩))] w
      fun e w' => e = .returned (.bool true) ∧ St w0 w' (box B #[.int .i64 i] 83 :: rs) := by
  have hv := valueOf_target ⟨B, 0, none⟩
  have ht := type_target
  have h1 := m_kind
  have h2 := kind_target
  have h3 := kind_err
  have h4 := m_elem
  have h5 := elem_type
  have h6 := m_impl
  have h7 := implements_err
  have s1 := h.alloc (.cells #[.pointer (some ⟨B, 0, none⟩)] 85)
  have s2 := s1.alloc (.cells #[hdl 85, .pointer (some ⟨w.heap.size, 0, none⟩), .int .u64 150] 112)
  have hn := isNil_target ⟨w.heap.size, 0, none⟩ ⟨B, 0, none⟩ _ ((s2.at1.cells.1 0).trans rfl)
  have e2 := (hE.below ((Below.refl _ _).alloc (Nat.le_refl _) (.cells #[.pointer (some ⟨B, 0, none⟩)] 85))).below ((Below.refl _ _).alloc (Nat.le_refl _) (.cells #[hdl 85, .pointer (some ⟨w.heap.size, 0, none⟩), .int .u64 150] 112))
  have AS := Lib.hid (as_st i B w.heap.size u (s2.at2.under St.at1 (by simp [or_left_comm])))
  unfold ErrType at e2
  clear s1 s2 hE h
  go_enter Tryd.func58, Tryd.ntmps58
  go_wp2_with fail
  refine AS.out.mono ?_
  rintro e w3 ⟨rfl, s3⟩
  have FIN := Lib.hid (s3.under (fun k => k.drop.drop) (fun z hz => List.mem_cons_of_mem _ (List.mem_cons_of_mem _ hz)))
  clear s3
  go_wp2_with fail
  go_ret
  exact ⟨rfl, FIN.out⟩

theorem errorsAs_nil (t : Value) (w : World) : Calls Tryd.prog 58 #[.nilIface, t] w fun e w' => e = .returned (.bool false) ∧ w = w' := by
  go_enter Tryd.func58, Tryd.ntmps58
  go_wp2_with fail
  go_ret
  exact ⟨rfl, rfl⟩

set_option maxRecDepth 100000 in
set_option maxHeartbeats 4000000 in
theorem logFrom_calls (S : ByteArray) (w : World) (hS : S.size ≤ 2097152) (hM : MaxCell w) (hE : ErrType w) :
    Calls Tryd.prog 31 #[.string S] w (GaveLog S.data.toList w) := by
  have PL := Lib.hid (parseLog_calls S w hS hM)
  have HE := Lib.hid hE
  clear hM hE
  go_enter Tryd.func31, Tryd.ntmps31
  go_wp2_with fail
  refine PL.out.mono ?_
  rintro e w1 (⟨v, us, rfl, hil, s1⟩ | ⟨i, rfl, hno, hb1⟩)
  · have s2 := (s1.alloc (.cells #[.int .i64 0] 83)).drop
    have h12 := (logOk_all hil.1).1
    have HIL := Lib.hid hil
    have F := Lib.hid s2
    clear s1 s2 hil
    go_wp2_with fail
    refine (errorsAs_nil _ _).mono ?_
    rintro e w2 ⟨rfl, rfl⟩
    go_wp2_with fail
    go_ret2
    exact ⟨_, us, true, rfl, .yes HIL.out, by omega, F.out⟩
  · have s1 := ((St.start w).call hb1).alloc (.cells #[.int .i64 0] 83)
    have AS := Lib.hid (errorsAs_st i _ 0 ((HE.out.below hb1).below ((Below.refl _ _).alloc (Nat.le_refl _) (.cells #[.int .i64 0] 83))) s1)
    have NO := Lib.hid hno
    clear s1 hb1 hno
    go_wp2_with fail
    refine AS.out.mono ?_
    rintro e w3 ⟨rfl, s3⟩
    have s4 := ((s3.drop).alloc (.cells #[] 25)).madeRow 2 0 rfl (by simp [maxLen]) 0 (Nat.le_refl _)
    simp only [List.take_nil] at s4
    have F := Lib.hid s4
    clear s3 s4
    go_wp2_with fail
    go_ret2
    exact ⟨_, [], false, rfl, .no NO.out, by simp, F.out⟩

/-- What the walks want of the library's variables. -/
structure Door (w : World) : Prop where
  max : MaxCell w
  err : ErrType w
theorem Door.below {w w' : World} (h : Door w) (hb : Below w.heap.size w w') : Door w' := ⟨h.max.below hb, h.err.below hb⟩
theorem max_of {w : World} (h : w.ShapedOpen Tryd.prog) : MaxCell w :=
  cell_of_shapedOpen_int (t := 3) (zero := #[.int .i64 0]) h (of_decide_eq_true (by kernel_rfl)) (by kernel_rfl) rfl (by kernel_rfl) (by kernel_rfl) Tryd.underlying3
theorem name_error : ((List.range Tryd.prog.types.size).all fun ty => !Tryd.prog.rowNamed ty [101, 114, 114, 111, 114] || ty == 66) = true := by kernel_rfl
theorem errType_of {w : World} {l : List (String × DataW Unit)} (h : laidMetH Tryd.prog l w) (hl : (l.filter fun x => x.2.handleName?.isSome) = [("errors.errorType", .iface "internal/reflectlite.rtype" (.agg [.ptr (.lit (.string [101, 114, 114, 111, 114]))]))]) : ErrType w := by
  have h2 := (laidMetH_iff.1 h).2
  rw [hl] at h2
  obtain ⟨name, u, ty, e1, e2, hty, hn, hv⟩ := h2 _ (List.mem_singleton.2 rfl)
  obtain rfl : name = [101, 114, 114, 111, 114] := (Option.some.inj (e1.symm.trans rfl))
  obtain rfl : u = 127 := (Option.some.inj (e2.symm.trans (by kernel_rfl)))
  have hall := List.all_eq_true.1 name_error ty (List.mem_range.2 hty)
  rw [hn] at hall
  obtain rfl : ty = 66 := by simpa using hall
  have := World.var?_cell (show Tryd.prog.globalNamed "errors.errorType" = some 0 by kernel_rfl) hv 0
  exact this
theorem door_of {w : World} {l : List (String × DataW Unit)} (h : laidMetH Tryd.prog l w) (hs : w.ShapedOpen Tryd.prog) (hl : (l.filter fun x => x.2.handleName?.isSome) = [("errors.errorType", .iface "internal/reflectlite.rtype" (.agg [.ptr (.lit (.string [101, 114, 114, 111, 114]))]))]) : Door w := ⟨max_of hs, errType_of h hl⟩

end Go.Proofs.YtebklbncfcdkmaaDoor
