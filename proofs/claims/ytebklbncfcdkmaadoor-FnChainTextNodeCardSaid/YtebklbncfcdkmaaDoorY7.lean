
/-
  What a row's condition on listed variables gives a walk: the table of powers of ten. No statement is proved here.
-/
import Derived.Test.YtebklbncfcdkmaaDoorY6
import Derived.LaidSub
import Derived.MakeChecks
namespace Go.Proofs.YtebklbncfcdkmaaDoor
open Go.RowKit

theorem pow10_of {w : World} {l : List (String × DataW Unit)} (h : laidMetH Tryd.prog l w) (hl : (l.filter fun x => x.1 == "internal/strconv.uint64pow10") = [("internal/strconv.uint64pow10", Lib.tabData .u64 Lib.pow10Tab)]) : Pow10 w := by
  have h1 := h.filter (fun x => x.1 == "internal/strconv.uint64pow10")
  rw [hl, MakeChecks.laidMetH_plain _ _ _ (by rfl)] at h1
  exact Lib.tabIs_of_head pow10_global (by kernel_rfl) Tryd.underlying149 Tryd.underlying141 (by kernel_rfl) (by kernel_rfl) h1
end Go.Proofs.YtebklbncfcdkmaaDoor
