/- Steps of the fixed world, reckoned in the kernel. -/
import Derived.Test.YtphfoenmfkibdaaGreatDoorKE
set_option linter.unusedSectionVars false
set_option linter.unusedVariables false
set_option linter.unusedSimpArgs false
set_option maxRecDepth 1000000
namespace Go.FX
open Go.Proofs Lt
theorem ent0_run : chunkB E0 (qOf memo1) ent0 = true := by decide +kernel
theorem ent2_run : chunkB E0 (qOf memo1) ent2 = true := by decide +kernel
theorem ent5_run : chunkB E0 (qOf memo1) ent5 = true := by decide +kernel
theorem ent6_run : chunkB E0 (qOf memo1) ent6 = true := by decide +kernel
theorem ent9_run : chunkB E0 (qOf memo1) ent9 = true := by decide +kernel
theorem ent10_run : chunkB E0 (qOf memo1) ent10 = true := by decide +kernel
theorem ent13_run : chunkB E0 (qOf memo1) ent13 = true := by decide +kernel
theorem ent14_run : chunkB E0 (qOf memo1) ent14 = true := by decide +kernel
theorem ent17_run : chunkB E0 (qOf memo1) ent17 = true := by decide +kernel
theorem ent18_run : chunkB E0 (qOf memo1) ent18 = true := by decide +kernel
theorem ent21_run : chunkB E0 (qOf memo1) ent21 = true := by decide +kernel
theorem ent22_run : chunkB E0 (qOf memo1) ent22 = true := by decide +kernel
theorem ent24_run : chunkB E0 (qOf memo1) ent24 = true := by decide +kernel
theorem ent25_run : chunkB E0 (qOf memo1) ent25 = true := by decide +kernel
theorem ent27_run : chunkB E0 (qOf memo1) ent27 = true := by decide +kernel
theorem ent28_run : chunkB E0 (qOf memo1) ent28 = true := by decide +kernel
theorem ent29_run : chunkB E0 (qOf memo1) ent29 = true := by decide +kernel
theorem ent30_run : chunkB E0 (qOf memo1) ent30 = true := by decide +kernel
theorem ent31_run : chunkB E0 (qOf memo1) ent31 = true := by decide +kernel
theorem ent32_run : chunkB E0 (qOf memo1) ent32 = true := by decide +kernel
theorem ent34_run : chunkB E0 (qOf memo1) ent34 = true := by decide +kernel
end Go.FX
