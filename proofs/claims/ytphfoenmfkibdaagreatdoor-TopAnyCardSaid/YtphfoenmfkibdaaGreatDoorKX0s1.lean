/- Steps of the fixed world, reckoned in the kernel. -/
import Derived.Test.YtphfoenmfkibdaaGreatDoorKE
set_option linter.unusedSectionVars false
set_option linter.unusedVariables false
set_option linter.unusedSimpArgs false
set_option maxRecDepth 1000000
namespace Go.FX
open Go.Proofs Lt
theorem ent11_run : chunkB E0 (qOf memo0) ent11 = true := by decide +kernel
theorem ent12_run : chunkB E0 (qOf memo0) ent12 = true := by decide +kernel
theorem ent15_run : chunkB E0 (qOf memo0) ent15 = true := by decide +kernel
theorem ent16_run : chunkB E0 (qOf memo0) ent16 = true := by decide +kernel
end Go.FX
