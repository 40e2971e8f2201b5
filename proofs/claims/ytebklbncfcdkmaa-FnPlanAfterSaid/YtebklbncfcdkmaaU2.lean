
/-
  The walks of the functions on updates and logs: valid, LogValid, the program's and the reference's. No statement is proved here.
-/
import Derived.Test.YtebklbncfcdkmaaU1
import Derived.Test.YtebklbncfcdkmaaV0
namespace Go.Proofs.Ytebklbncfcdkmaa
open Go.RowKit

end Go.Proofs.Ytebklbncfcdkmaa
