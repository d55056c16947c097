/- TopAny run with symbols: five numbers of chance. -/
import Derived.Test.YtphfoenmfkibdaaGreatDoorK9
set_option linter.unusedSectionVars false
set_option linter.unusedVariables false
set_option linter.unusedSimpArgs false
set_option maxRecDepth 1000000
namespace Go.FX
open Go.Proofs Lt
theorem top_5_0 (cap : Nat) : topB 0 (.s 8 0 5 cap) (hT 5) = true := by kernel_rfl
theorem top_5_1 (cap : Nat) : topB 1 (.s 8 0 5 cap) (hT 5) = true := by kernel_rfl
theorem top_5_2 (cap : Nat) : topB 2 (.s 8 0 5 cap) (hT 5) = true := by kernel_rfl
end Go.FX
