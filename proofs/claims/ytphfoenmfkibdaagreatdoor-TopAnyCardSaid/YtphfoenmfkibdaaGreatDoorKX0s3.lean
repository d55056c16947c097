/- Steps of the fixed world, reckoned in the kernel. -/
import Derived.Test.YtphfoenmfkibdaaGreatDoorKE
set_option linter.unusedSectionVars false
set_option linter.unusedVariables false
set_option linter.unusedSimpArgs false
set_option maxRecDepth 1000000
namespace Go.FX
open Go.Proofs Lt
theorem ent36_run : chunkB E0 (qOf memo0) ent36 = true := by decide +kernel
theorem ent37_run : chunkB E0 (qOf memo0) ent37 = true := by decide +kernel
theorem ent40_run : chunkB E0 (qOf memo0) ent40 = true := by decide +kernel
theorem ent41_run : chunkB E0 (qOf memo0) ent41 = true := by decide +kernel
theorem ent44_run : chunkB E0 (qOf memo0) ent44 = true := by decide +kernel
theorem ent49_run : chunkB E0 (qOf memo0) ent49 = true := by decide +kernel
end Go.FX
