/- The last step: the fixed world ends well, reckoned in the kernel. -/
import Derived.Test.YtphfoenmfkibdaaGreatDoorKE
set_option linter.unusedSectionVars false
set_option linter.unusedVariables false
set_option linter.unusedSimpArgs false
set_option maxRecDepth 1000000
namespace Go.FX
open Go.Proofs Lt
noncomputable def entS : HEnt := ⟨10, [], hR, .b true, heapOf [(0, roundsB)] 11737⟩
theorem entS_run : chunkB E0 (qOf memo2) entS = true := by decide +kernel
end Go.FX
