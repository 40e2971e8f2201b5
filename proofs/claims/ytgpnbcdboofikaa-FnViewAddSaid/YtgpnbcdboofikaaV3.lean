
/-
  The walks of ViewTakes, the program's and the reference's. No statement is proved here.
-/
import Derived.Test.YtgpnbcdboofikaaV2
import Derived.Test.YtgpnbcdboofikaaP2
namespace Go.Proofs.Ytgpnbcdboofikaa
open Go.RowKit

theorem box_view {w : World} {num : Int} {v : Value} : Below w.heap.size w (w.alloc (.cells #[.int .i64 num, v] 36)) := (Below.refl _ _).alloc (Nat.le_refl _) _

end Go.Proofs.Ytgpnbcdboofikaa
