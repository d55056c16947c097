/- The row of TopAny holds. -/
import Derived.Test.YtphfoenmfkibdaaGreatDoorKB2
import Derived.Test.YtphfoenmfkibdaaGreatDoorKC
set_option linter.unusedSectionVars false
set_option linter.unusedVariables false
set_option linter.unusedSimpArgs false
set_option maxRecDepth 1000000
namespace Go.Proofs.YtphfoenmfkibdaaGreatDoor
open Go Go.ChangeShapes Go.WideShapes Go.ChangeAt Go.RowKit Go.FX Go.Stop
theorem named7 : Tryz.prog.funcNamed "caucus/caucustop.TopAny" = some 7 := by kernel_rfl
theorem inst7 : Tryz.f7.isInstance Tryz.prog Rows.topAnyRow.origin Rows.topAnyRow.targs := of_decide_eq_true (by kernel_rfl)
theorem wrap7 : Tryz.f7.isWrapper Tryz.prog Rows.topAnyRow.wrapper Rows.topAnyRow.mainSum := by
  unfold Func.isWrapper
  first | (rw [if_pos (by decide +kernel)]; kernel_rfl) | (rw [if_neg (by decide +kernel)]; exact ⟨rfl, rfl⟩)
theorem topAny_holds : Rows.TopAnySaid :=
  OpenClaim.holds_of_wide 7 Tryz.f7 rfl rfl rfl rfl rfl rfl rfl ⟨rfl, rfl, rfl, rfl, rfl⟩ rfl rfl rfl rfl rfl named7 Tryz.func7 closed
    inst7 wrap7
    (fun os started H enc _ => lifted os started H enc)
end Go.Proofs.YtphfoenmfkibdaaGreatDoor
