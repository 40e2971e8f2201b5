
/-
  The walk of eqIntS. No statement is proved here.
-/
import Derived.Test.YtebklbncfcdkmaaSg
namespace Go.Proofs.Ytebklbncfcdkmaa
open Go.RowKit

end Go.Proofs.Ytebklbncfcdkmaa
