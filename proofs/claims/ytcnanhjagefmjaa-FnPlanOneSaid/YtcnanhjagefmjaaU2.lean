
/-
  The walks of the functions on updates and logs: valid, LogValid, the program's and the reference's. No statement is proved here.
-/
import Derived.Test.YtcnanhjagefmjaaU1
import Derived.Test.YtcnanhjagefmjaaV0
namespace Go.Proofs.Ytcnanhjagefmjaa
open Go.RowKit

end Go.Proofs.Ytcnanhjagefmjaa
