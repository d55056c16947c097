/- Steps of the fixed world, reckoned in the kernel. -/
import Derived.Test.YtphfoenmfkibdaaGreatDoorKE
set_option linter.unusedSectionVars false
set_option linter.unusedVariables false
set_option linter.unusedSimpArgs false
set_option maxRecDepth 1000000
namespace Go.FX
open Go.Proofs Lt
theorem ent35_run : chunkB E0 (qOf memo1) ent35 = true := by decide +kernel
theorem ent38_run : chunkB E0 (qOf memo1) ent38 = true := by decide +kernel
theorem ent39_run : chunkB E0 (qOf memo1) ent39 = true := by decide +kernel
theorem ent42_run : chunkB E0 (qOf memo1) ent42 = true := by decide +kernel
theorem ent43_run : chunkB E0 (qOf memo1) ent43 = true := by decide +kernel
theorem ent45_run : chunkB E0 (qOf memo1) ent45 = true := by decide +kernel
theorem ent46_run : chunkB E0 (qOf memo1) ent46 = true := by decide +kernel
theorem ent47_run : chunkB E0 (qOf memo1) ent47 = true := by decide +kernel
theorem ent48_run : chunkB E0 (qOf memo1) ent48 = true := by decide +kernel
theorem ent50_run : chunkB E0 (qOf memo1) ent50 = true := by decide +kernel
theorem ent51_run : chunkB E0 (qOf memo1) ent51 = true := by decide +kernel
theorem ent52_run : chunkB E0 (qOf memo1) ent52 = true := by decide +kernel
theorem ent53_run : chunkB E0 (qOf memo1) ent53 = true := by decide +kernel
theorem ent54_run : chunkB E0 (qOf memo1) ent54 = true := by decide +kernel
theorem ent55_run : chunkB E0 (qOf memo1) ent55 = true := by decide +kernel
theorem ent56_run : chunkB E0 (qOf memo1) ent56 = true := by decide +kernel
theorem ent57_run : chunkB E0 (qOf memo1) ent57 = true := by decide +kernel
theorem ent58_run : chunkB E0 (qOf memo1) ent58 = true := by decide +kernel
theorem ent59_run : chunkB E0 (qOf memo1) ent59 = true := by decide +kernel
theorem ent60_run : chunkB E0 (qOf memo1) ent60 = true := by decide +kernel
theorem ent61_run : chunkB E0 (qOf memo1) ent61 = true := by decide +kernel
theorem ent62_run : chunkB E0 (qOf memo1) ent62 = true := by decide +kernel
theorem ent63_run : chunkB E0 (qOf memo1) ent63 = true := by decide +kernel
theorem ent64_run : chunkB E0 (qOf memo1) ent64 = true := by decide +kernel
theorem ent65_run : chunkB E0 (qOf memo1) ent65 = true := by decide +kernel
theorem ent66_run : chunkB E0 (qOf memo1) ent66 = true := by decide +kernel
theorem ent67_run : chunkB E0 (qOf memo1) ent67 = true := by decide +kernel
theorem ent68_run : chunkB E0 (qOf memo1) ent68 = true := by decide +kernel
theorem ent69_run : chunkB E0 (qOf memo1) ent69 = true := by decide +kernel
theorem ent70_run : chunkB E0 (qOf memo1) ent70 = true := by decide +kernel
theorem ent71_run : chunkB E0 (qOf memo1) ent71 = true := by decide +kernel
theorem ent72_run : chunkB E0 (qOf memo1) ent72 = true := by decide +kernel
theorem ent73_run : chunkB E0 (qOf memo1) ent73 = true := by decide +kernel
theorem ent74_run : chunkB E0 (qOf memo1) ent74 = true := by decide +kernel
theorem ent75_run : chunkB E0 (qOf memo1) ent75 = true := by decide +kernel
theorem ent76_run : chunkB E0 (qOf memo1) ent76 = true := by decide +kernel
theorem ent77_run : chunkB E0 (qOf memo1) ent77 = true := by decide +kernel
theorem ent78_run : chunkB E0 (qOf memo1) ent78 = true := by decide +kernel
theorem ent79_run : chunkB E0 (qOf memo1) ent79 = true := by decide +kernel
theorem ent80_run : chunkB E0 (qOf memo1) ent80 = true := by decide +kernel
end Go.FX
