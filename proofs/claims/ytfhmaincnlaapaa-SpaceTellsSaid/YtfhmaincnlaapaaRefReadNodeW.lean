/-
  bushelref25.ReadNode.
  THE DOCUMENT's READER: U, End.
-/
import Derived.Test.YtfhmaincnlaapaaRefRead
import Derived.Test.YtfhmaincnlaapaaReadNodeW
namespace Go.Proofs.Ytfhmaincnlaapaa
open Go.ChangeShapes Go.WideShapes Go.ChangeAt Go.RowKit
set_option linter.unusedVariables false

theorem stepP_eq (p n k : Nat) : stepP p n k = p + stepV 0 n k := by unfold stepP stepV; split <;> simp
end Go.Proofs.Ytfhmaincnlaapaa
namespace Go.Proofs.Ytfhmaincnlaapaa
open Go.ChangeShapes Go.WideShapes Go.ChangeAt Go.RowKit
set_option linter.unusedVariables false

end Go.Proofs.Ytfhmaincnlaapaa
