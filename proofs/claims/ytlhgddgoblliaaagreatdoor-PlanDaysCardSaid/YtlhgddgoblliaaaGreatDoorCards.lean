/-
  DERIVED. GIVEN WITH THE SEED: THE CARDS: each row of YtlhgddgoblliaaaGreatDoorRows.lean that lists a variable, with what it lists TIED to the program's text (the seventh form; the later family's looks); each row that meets fmt, with fmt's text TOLD by the authors' own Lean function (tested against real Go, not proved from fmt's source: count such statements apart). THE CARD IS WHAT COUNTS. Prove the row's statement (the work); the ties are given (YtlhgddgoblliaaaGreatDoorTie.lean); close each card by the builder's one call (the guide's Derived/Test/ToyasCard.lean, 'card_holds'). Laid BY PROGRAM, IN A SANDBOX (cutbox-door.mjs). By AI agents, Wed Nov 11 2026. No macro, syntax, notation, axiom, sorry.
-/
import Derived.Test.YtlhgddgoblliaaaGreatDoorRows
import GoSem.ClaimSeven
namespace Go.Proofs.YtlhgddgoblliaaaGreatDoor
namespace Rows

/-- THE TIED CARD OF 'versinelaw09.PlanSequences'. -/
def planSequencesCard : Claim7 := { stood := { row := planSequencesRow, standIns := [], harness := (true, "b075836c6cd8e4f096e7a10c9b5ebc6375099b1b83aef854a5aba7e3bdfb8150"), looks := false }, kinds := [], alts := [], laidByText := true, laidKinds := [.data, .data, .data, .widerDeep], laidTests := true, laidLooks := .later }
def PlanSequencesCardSaid : Prop := Claim7.holds Tryz.pinned (.plain (OpenSpec.ofChange planSequencesSpec)) planSequencesCard

/-- THE TIED CARD OF 'versinelaw09.PlanDays'. -/
def planDaysCard : Claim7 := { stood := { row := planDaysRow, standIns := [], harness := (true, "b075836c6cd8e4f096e7a10c9b5ebc6375099b1b83aef854a5aba7e3bdfb8150"), looks := false }, kinds := [], alts := [], laidByText := true, laidKinds := [.data, .data, .data, .widerDeep], laidTests := true, laidLooks := .later }
def PlanDaysCardSaid : Prop := Claim7.holds Tryz.pinned (.plain (OpenSpec.ofChange planDaysSpec)) planDaysCard

/-- THE TIED CARD OF 'versinelaw09.PlanTexts'. -/
def planTextsCard : Claim7 := { stood := { row := planTextsRow, standIns := [], harness := (true, "b075836c6cd8e4f096e7a10c9b5ebc6375099b1b83aef854a5aba7e3bdfb8150"), looks := false }, kinds := [], alts := [], laidByText := true, laidKinds := [.data, .data, .data, .data, .widerDeep, .pinned], laidTests := true, laidLooks := .later }
def PlanTextsCardSaid : Prop := Claim7.holds Tryz.pinned (.plain (OpenSpec.ofChange planTextsSpec)) planTextsCard

/-- THE TIED CARD OF 'versinelaw09.PlanBack'. -/
def planBackCard : Claim7 := { stood := { row := planBackRow, standIns := [], harness := (true, "b075836c6cd8e4f096e7a10c9b5ebc6375099b1b83aef854a5aba7e3bdfb8150"), looks := false }, kinds := [], alts := [], laidByText := true, laidKinds := [.data, .data, .data, .data, .widerDeep, .pinned], laidTests := true, laidLooks := .later }
def PlanBackCardSaid : Prop := Claim7.holds Tryz.pinned (.plain (OpenSpec.ofChange planBackSpec)) planBackCard

/-- THE SECOND FORM's CARD OF 'versinelaw09.PlanSequences'. -/
def planSequencesUptoCard : Claim7 := { stood := { row := planSequencesUptoRow, standIns := [], harness := (true, "b075836c6cd8e4f096e7a10c9b5ebc6375099b1b83aef854a5aba7e3bdfb8150"), looks := false }, kinds := [], alts := [], laidByText := true, laidKinds := [.data, .data, .data, .widerDeep], laidTests := true, laidLooks := .later }
def PlanSequencesUptoCardSaid : Prop := Claim7.holds Tryz.pinned (.plain (OpenSpec.upto planSequencesSpec)) planSequencesUptoCard

/-- THE SECOND FORM's CARD OF 'versinelaw09.PlanDays'. -/
def planDaysUptoCard : Claim7 := { stood := { row := planDaysUptoRow, standIns := [], harness := (true, "b075836c6cd8e4f096e7a10c9b5ebc6375099b1b83aef854a5aba7e3bdfb8150"), looks := false }, kinds := [], alts := [], laidByText := true, laidKinds := [.data, .data, .data, .widerDeep], laidTests := true, laidLooks := .later }
def PlanDaysUptoCardSaid : Prop := Claim7.holds Tryz.pinned (.plain (OpenSpec.upto planDaysSpec)) planDaysUptoCard

/-- THE SECOND FORM's CARD OF 'versinelaw09.PlanTexts'. -/
def planTextsUptoCard : Claim7 := { stood := { row := planTextsUptoRow, standIns := [], harness := (true, "b075836c6cd8e4f096e7a10c9b5ebc6375099b1b83aef854a5aba7e3bdfb8150"), looks := false }, kinds := [], alts := [], laidByText := true, laidKinds := [.data, .data, .data, .data, .widerDeep, .pinned], laidTests := true, laidLooks := .later }
def PlanTextsUptoCardSaid : Prop := Claim7.holds Tryz.pinned (.plain (OpenSpec.upto planTextsSpec)) planTextsUptoCard

/-- THE SECOND FORM's CARD OF 'versinelaw09.PlanBack'. -/
def planBackUptoCard : Claim7 := { stood := { row := planBackUptoRow, standIns := [], harness := (true, "b075836c6cd8e4f096e7a10c9b5ebc6375099b1b83aef854a5aba7e3bdfb8150"), looks := false }, kinds := [], alts := [], laidByText := true, laidKinds := [.data, .data, .data, .data, .widerDeep, .pinned], laidTests := true, laidLooks := .later }
def PlanBackUptoCardSaid : Prop := Claim7.holds Tryz.pinned (.plain (OpenSpec.upto planBackSpec)) planBackUptoCard
end Rows
end Go.Proofs.YtlhgddgoblliaaaGreatDoor
