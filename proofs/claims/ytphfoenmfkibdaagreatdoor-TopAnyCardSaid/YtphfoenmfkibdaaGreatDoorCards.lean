/-
  DERIVED. GIVEN WITH THE SEED: THE CARDS: each row of YtphfoenmfkibdaaGreatDoorRows.lean that lists a variable, with what it lists TIED to the program's text (the seventh form; the later family's looks); each row that meets fmt, with fmt's text TOLD by the authors' own Lean function (tested against real Go, not proved from fmt's source: count such statements apart). THE CARD IS WHAT COUNTS. Prove the row's statement (the work); the ties are given (YtphfoenmfkibdaaGreatDoorTie.lean); close each card by the builder's one call (the guide's Derived/Test/ToyasCard.lean, 'card_holds'). Laid BY PROGRAM, IN A SANDBOX (cutbox-door.mjs). By AI agents, Wed Nov 11 2026. No macro, syntax, notation, axiom, sorry.
-/
import Derived.Test.YtphfoenmfkibdaaGreatDoorRows
import GoSem.ClaimSeven
namespace Go.Proofs.YtphfoenmfkibdaaGreatDoor
namespace Rows

/-- THE TIED CARD OF 'caucustop.TopAway'. -/
def topAwayCard : Claim7 := { stood := { row := topAwayRow, standIns := [], harness := (true, "6b1a7c8502148e2c81594eedf65279044fece8316e70ba1717355f193310b9f0"), looks := true }, kinds := [], alts := [], laidByText := true, laidKinds := [.data, .data, .data, .data], laidTests := true, laidLooks := .later }
def TopAwayCardSaid : Prop := Claim7.holds Tryz.pinned (.plain (OpenSpec.ofChange topAwaySpec)) topAwayCard

/-- THE TIED CARD OF 'caucustop.TopSteps'. -/
def topStepsCard : Claim7 := { stood := { row := topStepsRow, standIns := [], harness := (true, "6b1a7c8502148e2c81594eedf65279044fece8316e70ba1717355f193310b9f0"), looks := true }, kinds := [], alts := [], laidByText := true, laidKinds := [.data, .data, .data, .data], laidTests := true, laidLooks := .later }
def TopStepsCardSaid : Prop := Claim7.holds Tryz.pinned (.plain (OpenSpec.ofChange topStepsSpec)) topStepsCard

/-- THE TIED CARD OF 'caucustop.TopOrder'. -/
def topOrderCard : Claim7 := { stood := { row := topOrderRow, standIns := [], harness := (true, "6b1a7c8502148e2c81594eedf65279044fece8316e70ba1717355f193310b9f0"), looks := true }, kinds := [], alts := [], laidByText := true, laidKinds := [.data, .data, .data, .data], laidTests := true, laidLooks := .later }
def TopOrderCardSaid : Prop := Claim7.holds Tryz.pinned (.plain (OpenSpec.ofChange topOrderSpec)) topOrderCard

/-- THE TIED CARD OF 'caucustop.TopLost'. -/
def topLostCard : Claim7 := { stood := { row := topLostRow, standIns := [], harness := (true, "6b1a7c8502148e2c81594eedf65279044fece8316e70ba1717355f193310b9f0"), looks := true }, kinds := [], alts := [], laidByText := true, laidKinds := [.data, .data, .data, .data], laidTests := true, laidLooks := .later }
def TopLostCardSaid : Prop := Claim7.holds Tryz.pinned (.plain (OpenSpec.ofChange topLostSpec)) topLostCard

/-- THE TIED CARD OF 'caucustop.TopAny'. -/
def topAnyCard : Claim7 := { stood := { row := topAnyRow, standIns := [], harness := (true, "6b1a7c8502148e2c81594eedf65279044fece8316e70ba1717355f193310b9f0"), looks := true }, kinds := [], alts := [], laidByText := true, laidKinds := [.data, .data, .data, .data], laidTests := true, laidLooks := .later }
def TopAnyCardSaid : Prop := Claim7.holds Tryz.pinned (.plain (OpenSpec.ofChange topAnySpec)) topAnyCard

/-- THE TIED CARD OF 'caucustop.TopEnd'. -/
def topEndCard : Claim7 := { stood := { row := topEndRow, standIns := [], harness := (true, "6b1a7c8502148e2c81594eedf65279044fece8316e70ba1717355f193310b9f0"), looks := true }, kinds := [], alts := [], laidByText := true, laidKinds := [.data, .data, .data, .data], laidTests := true, laidLooks := .later }
def TopEndCardSaid : Prop := Claim7.holds Tryz.pinned (.plain (OpenSpec.ofChange topEndSpec)) topEndCard

/-- THE SECOND FORM's CARD OF 'caucustop.TopAway'. -/
def topAwayUptoCard : Claim7 := { stood := { row := topAwayUptoRow, standIns := [], harness := (true, "6b1a7c8502148e2c81594eedf65279044fece8316e70ba1717355f193310b9f0"), looks := true }, kinds := [], alts := [], laidByText := true, laidKinds := [.data, .data, .data, .data], laidTests := true, laidLooks := .later }
def TopAwayUptoCardSaid : Prop := Claim7.holds Tryz.pinned (.plain (OpenSpec.upto topAwaySpec)) topAwayUptoCard

/-- THE SECOND FORM's CARD OF 'caucustop.TopSteps'. -/
def topStepsUptoCard : Claim7 := { stood := { row := topStepsUptoRow, standIns := [], harness := (true, "6b1a7c8502148e2c81594eedf65279044fece8316e70ba1717355f193310b9f0"), looks := true }, kinds := [], alts := [], laidByText := true, laidKinds := [.data, .data, .data, .data], laidTests := true, laidLooks := .later }
def TopStepsUptoCardSaid : Prop := Claim7.holds Tryz.pinned (.plain (OpenSpec.upto topStepsSpec)) topStepsUptoCard

/-- THE SECOND FORM's CARD OF 'caucustop.TopOrder'. -/
def topOrderUptoCard : Claim7 := { stood := { row := topOrderUptoRow, standIns := [], harness := (true, "6b1a7c8502148e2c81594eedf65279044fece8316e70ba1717355f193310b9f0"), looks := true }, kinds := [], alts := [], laidByText := true, laidKinds := [.data, .data, .data, .data], laidTests := true, laidLooks := .later }
def TopOrderUptoCardSaid : Prop := Claim7.holds Tryz.pinned (.plain (OpenSpec.upto topOrderSpec)) topOrderUptoCard

/-- THE SECOND FORM's CARD OF 'caucustop.TopLost'. -/
def topLostUptoCard : Claim7 := { stood := { row := topLostUptoRow, standIns := [], harness := (true, "6b1a7c8502148e2c81594eedf65279044fece8316e70ba1717355f193310b9f0"), looks := true }, kinds := [], alts := [], laidByText := true, laidKinds := [.data, .data, .data, .data], laidTests := true, laidLooks := .later }
def TopLostUptoCardSaid : Prop := Claim7.holds Tryz.pinned (.plain (OpenSpec.upto topLostSpec)) topLostUptoCard

/-- THE SECOND FORM's CARD OF 'caucustop.TopAny'. -/
def topAnyUptoCard : Claim7 := { stood := { row := topAnyUptoRow, standIns := [], harness := (true, "6b1a7c8502148e2c81594eedf65279044fece8316e70ba1717355f193310b9f0"), looks := true }, kinds := [], alts := [], laidByText := true, laidKinds := [.data, .data, .data, .data], laidTests := true, laidLooks := .later }
def TopAnyUptoCardSaid : Prop := Claim7.holds Tryz.pinned (.plain (OpenSpec.upto topAnySpec)) topAnyUptoCard

/-- THE SECOND FORM's CARD OF 'caucustop.TopEnd'. -/
def topEndUptoCard : Claim7 := { stood := { row := topEndUptoRow, standIns := [], harness := (true, "6b1a7c8502148e2c81594eedf65279044fece8316e70ba1717355f193310b9f0"), looks := true }, kinds := [], alts := [], laidByText := true, laidKinds := [.data, .data, .data, .data], laidTests := true, laidLooks := .later }
def TopEndUptoCardSaid : Prop := Claim7.holds Tryz.pinned (.plain (OpenSpec.upto topEndSpec)) topEndUptoCard
end Rows
end Go.Proofs.YtphfoenmfkibdaaGreatDoor
