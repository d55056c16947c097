/- Steps of the fixed world, reckoned in the kernel. -/
import Derived.Test.YtphfoenmfkibdaaGreatDoorKE
set_option linter.unusedSectionVars false
set_option linter.unusedVariables false
set_option linter.unusedSimpArgs false
set_option maxRecDepth 1000000
namespace Go.FX
open Go.Proofs Lt
theorem ent1_run : chunkB E0 (qOf memo0) ent1 = true := by decide +kernel
theorem ent3_run : chunkB E0 (qOf memo0) ent3 = true := by decide +kernel
theorem ent4_run : chunkB E0 (qOf memo0) ent4 = true := by decide +kernel
theorem ent7_run : chunkB E0 (qOf memo0) ent7 = true := by decide +kernel
theorem ent8_run : chunkB E0 (qOf memo0) ent8 = true := by decide +kernel
end Go.FX
