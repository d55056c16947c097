/- The closed facts of the row of TopAny. -/
import Derived.Test.YtphfoenmfkibdaaGreatDoorKC0
import Derived.Test.YtphfoenmfkibdaaGreatDoorKC1
import Derived.Test.YtphfoenmfkibdaaGreatDoorKC2
import Derived.Test.YtphfoenmfkibdaaGreatDoorKC3
import Derived.Test.YtphfoenmfkibdaaGreatDoorKC4
import Derived.Test.YtphfoenmfkibdaaGreatDoorKC5
import Derived.Test.YtphfoenmfkibdaaGreatDoorKC6
set_option linter.unusedSectionVars false
set_option linter.unusedVariables false
set_option linter.unusedSimpArgs false
set_option maxRecDepth 1000000
namespace Go.Proofs.YtphfoenmfkibdaaGreatDoor
open Go Go.ChangeShapes Go.WideShapes Go.ChangeAt Go.RowKit
theorem and2 {a b : Bool} (h : a = true) (k : b = true) : (a && b) = true := by rw [h, k]; rfl
theorem closed : joinedFacts Tryz.prog 7 Tryz.f7 Rows.topAnySpec Rows.topAnyRow = true := and2 (and2 (and2 (and2 (and2 (and2 (and2 (and2 (and2 (and2 (and2 (and2 (and2 (and2 (and2 (and2 (and2 (and2 (and2 (and2 (and2 (and2 (and2 (and2 (and2 (and2 (and2 (and2 (and2 (and2 (and2 fact0 fact1) fact2) fact3) fact4) fact5) fact6) fact7) fact8) fact9) fact10) fact11) fact12) fact13) fact14) fact15) fact16) fact17) fact18) fact19) fact20) fact21) fact22) fact23) fact24) fact25) fact26) fact27) fact28) fact29) fact30) fact31
end Go.Proofs.YtphfoenmfkibdaaGreatDoor
