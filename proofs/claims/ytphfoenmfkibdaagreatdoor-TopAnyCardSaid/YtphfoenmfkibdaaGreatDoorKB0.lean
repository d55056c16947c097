/- The row of TopAny: its start. -/
import Derived.Test.YtphfoenmfkibdaaGreatDoorKA
import Derived.Test.YtphfoenmfkibdaaGreatDoorRows
import Derived.Test.YtphfoenmfkibdaaGreatDoorCards
import Derived.Test.YtphfoenmfkibdaaGreatDoorTie
import Derived.ProofKit
import Derived.LaidMore
import Derived.OpenShut
import Derived.Stop.Joined
import Derived.Stop.LaidErr
import Derived.Lib.LaidTab
import Derived.Carry
import Derived.MakeChecks
import Derived.SevenTiedAt
set_option linter.unusedSectionVars false
set_option linter.unusedVariables false
set_option linter.unusedSimpArgs false
set_option maxRecDepth 1000000
namespace Go.Proofs.YtphfoenmfkibdaaGreatDoor
open Go Go.ChangeShapes Go.WideShapes Go.ChangeAt Go.RowKit Go.FX

theorem own : ownKnob Tryz.prog.godebug = none := by kernel_rfl
theorem laidOut : laidOutB Tryz.prog = true := by kernel_rfl
theorem gRounds : Tryz.prog.globalNamed "caucus/sha.rounds" = some 0 := by kernel_rfl
theorem tRounds : (Tryz.prog.globals[0]?).map (·.type) = some 409 := by kernel_rfl
theorem cells27 : Tryz.prog.cellsOf 27 = 1 := by kernel_rfl
theorem types59 : Tryz.prog.cellTypes Tryz.prog.depth 59 = some [27, 27] := by kernel_rfl

/-- The door's own heap meets the condition. -/
theorem door_met (os : Os) (args : Array Value) : laidMetH Tryz.prog Rows.topAnyRow.laid ((World.doorLaid Tryz.prog 29 os).forCall (fun _ _ => 0) ⟨#[], args, []⟩).memory :=
  laidMetH_of_parts3 (fuel := 8) (laidMet_of_run' 8 (by kernel_rfl) (by kernel_rfl)) (by kernel_rfl) (by kernel_rfl)

end Go.Proofs.YtphfoenmfkibdaaGreatDoor
