/- Steps of the fixed world, reckoned in the kernel. -/
import Derived.Test.YtphfoenmfkibdaaGreatDoorKE
set_option linter.unusedSectionVars false
set_option linter.unusedVariables false
set_option linter.unusedSimpArgs false
set_option maxRecDepth 1000000
namespace Go.FX
open Go.Proofs Lt
theorem ent19_run : chunkB E0 (qOf memo0) ent19 = true := by decide +kernel
theorem ent20_run : chunkB E0 (qOf memo0) ent20 = true := by decide +kernel
theorem ent23_run : chunkB E0 (qOf memo0) ent23 = true := by decide +kernel
theorem ent26_run : chunkB E0 (qOf memo0) ent26 = true := by decide +kernel
theorem ent33_run : chunkB E0 (qOf memo0) ent33 = true := by decide +kernel
end Go.FX
