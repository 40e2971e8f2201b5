
/-
  The walk of eqIntS. No statement is proved here.
-/
import Derived.Test.YtebklbncfcdkmaaDoorSg
namespace Go.Proofs.YtebklbncfcdkmaaDoor
open Go.RowKit

end Go.Proofs.YtebklbncfcdkmaaDoor
