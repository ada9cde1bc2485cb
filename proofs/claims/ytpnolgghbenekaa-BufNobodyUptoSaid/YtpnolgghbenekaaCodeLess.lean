/-
  code.Less and bushelref07.Less: the bytes' order, for any two slices.
-/
import Derived.Test.YtpnolgghbenekaaWords
namespace Go.Proofs.Ytpnolgghbenekaa
open Go.ChangeShapes Go.WideShapes Go.ChangeAt Go.RowKit
set_option linter.unusedVariables false

end Go.Proofs.Ytpnolgghbenekaa
