/- TopAny run with symbols: four numbers of chance. -/
import Derived.Test.YtphfoenmfkibdaaGreatDoorK9
set_option linter.unusedSectionVars false
set_option linter.unusedVariables false
set_option linter.unusedSimpArgs false
set_option maxRecDepth 1000000
namespace Go.FX
open Go.Proofs Lt
theorem top_4_0 (cap : Nat) : topB 0 (.s 8 0 4 cap) (hT 4) = true := by kernel_rfl
theorem top_4_1 (cap : Nat) : topB 1 (.s 8 0 4 cap) (hT 4) = true := by kernel_rfl
theorem top_4_2 (cap : Nat) : topB 2 (.s 8 0 4 cap) (hT 4) = true := by kernel_rfl
end Go.FX
