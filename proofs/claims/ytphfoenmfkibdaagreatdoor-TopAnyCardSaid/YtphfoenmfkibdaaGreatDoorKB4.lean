/- TopAny: fewer shares than are needed tell nothing: for every secret, every numbers of chance and every octet the law answers true and its arguments read as they did; the listed tables are as the text of the program lays them (the tied card). -/
import Derived.Test.YtphfoenmfkibdaaGreatDoorKB3
set_option linter.unusedSectionVars false
set_option linter.unusedVariables false
set_option linter.unusedSimpArgs false
set_option maxRecDepth 1000000
namespace Go.Proofs.YtphfoenmfkibdaaGreatDoor
open Go
theorem cardWf : Rows.topAnyRow.wfByText (OpenSpec.ofChange Rows.topAnySpec) = true := by kernel_rfl
theorem cardMain : Tryz.pinned.checked.prog.mainIs = some (true, "6b1a7c8502148e2c81594eedf65279044fece8316e70ba1717355f193310b9f0".toList) := by kernel_rfl
theorem cardLooks : true = Tryz.pinned.checked.prog.looks [] := by kernel_rfl
theorem cardGoes : false = Rows.topAnyRow.goesBy Tryz.pinned.checked.prog := by kernel_rfl
theorem cardStands : ([59, 60, 5].all fun u => !Tryz.prog.wantsStandIn u) = true := by kernel_rfl
/-- Fewer shares than are needed tell nothing: the tied card of TopAny. -/
theorem topAny_card_holds : Rows.TopAnyCardSaid :=
  Claim7.holds_tied_plain_at .later [] [.data, .data, .data, .data] true (true, "6b1a7c8502148e2c81594eedf65279044fece8316e70ba1717355f193310b9f0") true
    topAny_holds (fun _ h => by cases h) cardWf (fun _ h => by cases h) topAny_row_tie rfl ⟨rfl, rfl⟩ cardMain rfl
    (fun f fn hf hfn => by
      obtain rfl : f = 7 := Option.some.inj (named7.symm.trans hf) |>.symm
      obtain rfl : fn = Tryz.f7 := (Option.some.inj (Tryz.func7.symm.trans hfn)).symm
      exact ⟨cardLooks, fun j t ht => by
        rw [Tryz.params7] at ht
        have hm : t ∈ [59, 60, 5] := by simpa using Array.mem_of_getElem? ht
        exact (show Tryz.prog.wantsStandIn t = false by simpa using List.all_eq_true.1 cardStands t hm)⟩)
    cardGoes
#print axioms topAny_card_holds
end Go.Proofs.YtphfoenmfkibdaaGreatDoor
