/- Closed facts of the row of TopAny. -/
import Derived.Test.YtphfoenmfkibdaaGreatDoorRows
import Derived.ProofKit
import Derived.JoinedOf
set_option linter.unusedSectionVars false
set_option linter.unusedVariables false
set_option linter.unusedSimpArgs false
set_option maxRecDepth 1000000
namespace Go.Proofs.YtphfoenmfkibdaaGreatDoor
open Go Go.ChangeShapes Go.WideShapes Go.ChangeAt Go.RowKit
theorem fact11 : ((Rows.topAnyRow.recurses == Tryz.prog.recurses 7)) = true := by kernel_rfl
end Go.Proofs.YtphfoenmfkibdaaGreatDoor
