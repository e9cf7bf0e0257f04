/-
  DERIVED. GIVEN WITH THE SEED: THE CARDS: each row of YtoopgdchiljmiaaGreatDoorRows.lean that lists a variable, with what it lists TIED to the program's text (the seventh form; the later family's looks); each row that meets fmt, with fmt's text TOLD by the authors' own Lean function (tested against real Go, not proved from fmt's source: count such statements apart). THE CARD IS WHAT COUNTS. Prove the row's statement (the work); the ties are given (YtoopgdchiljmiaaGreatDoorTie.lean); close each card by the builder's one call (the guide's Derived/Test/ToyasCard.lean, 'card_holds'). Laid BY PROGRAM, IN A SANDBOX (cutbox-door.mjs). By AI agents, Wed Nov 11 2026. No macro, syntax, notation, axiom, sorry.
-/
import Derived.Test.YtoopgdchiljmiaaGreatDoorRows
import GoSem.ClaimSeven
namespace Go.Proofs.YtoopgdchiljmiaaGreatDoor
namespace Rows

/-- THE TIED CARD OF 'versinelaw05.AlignLeast'. -/
def alignLeastCard : Claim7 := { stood := { row := alignLeastRow, standIns := [], harness := (true, "316e91d4f85f4fadb16f34eea241d58b85a2912fa907c6613a9519d8e203c24b"), looks := false }, kinds := [], alts := [], laidByText := true, laidKinds := [.data, .data, .data, .funcsDeep], laidTests := true, laidLooks := .later }
def AlignLeastCardSaid : Prop := Claim7.holds Tryz.pinned (.plain (OpenSpec.ofChange alignLeastSpec)) alignLeastCard

/-- THE TIED CARD OF 'versinelaw05.AlignTables'. -/
def alignTablesCard : Claim7 := { stood := { row := alignTablesRow, standIns := [], harness := (true, "316e91d4f85f4fadb16f34eea241d58b85a2912fa907c6613a9519d8e203c24b"), looks := false }, kinds := [], alts := [], laidByText := true, laidKinds := [.data, .data, .data, .funcsDeep], laidTests := true, laidLooks := .later }
def AlignTablesCardSaid : Prop := Claim7.holds Tryz.pinned (.plain (OpenSpec.ofChange alignTablesSpec)) alignTablesCard

/-- THE TIED CARD OF 'versinelaw05.AlignRegisters'. -/
def alignRegistersCard : Claim7 := { stood := { row := alignRegistersRow, standIns := [], harness := (true, "316e91d4f85f4fadb16f34eea241d58b85a2912fa907c6613a9519d8e203c24b"), looks := false }, kinds := [], alts := [], laidByText := true, laidKinds := [.data, .data, .data, .funcsDeep], laidTests := true, laidLooks := .later }
def AlignRegistersCardSaid : Prop := Claim7.holds Tryz.pinned (.plain (OpenSpec.ofChange alignRegistersSpec)) alignRegistersCard

/-- THE TIED CARD OF 'versinelaw05.AlignShifts'. -/
def alignShiftsCard : Claim7 := { stood := { row := alignShiftsRow, standIns := [], harness := (true, "316e91d4f85f4fadb16f34eea241d58b85a2912fa907c6613a9519d8e203c24b"), looks := false }, kinds := [], alts := [], laidByText := true, laidKinds := [.data, .data, .data, .funcsDeep], laidTests := true, laidLooks := .later }
def AlignShiftsCardSaid : Prop := Claim7.holds Tryz.pinned (.plain (OpenSpec.ofChange alignShiftsSpec)) alignShiftsCard

/-- THE TIED CARD OF 'versinelaw05.AlignProved'. -/
def alignProvedCard : Claim7 := { stood := { row := alignProvedRow, standIns := [], harness := (true, "316e91d4f85f4fadb16f34eea241d58b85a2912fa907c6613a9519d8e203c24b"), looks := false }, kinds := [], alts := [], laidByText := true, laidKinds := [.data, .data, .data, .funcsDeep], laidTests := true, laidLooks := .later }
def AlignProvedCardSaid : Prop := Claim7.holds Tryz.pinned (.plain (OpenSpec.ofChange alignProvedSpec)) alignProvedCard

/-- THE TIED CARD OF 'versinelaw05.AlignMirrored'. -/
def alignMirroredCard : Claim7 := { stood := { row := alignMirroredRow, standIns := [], harness := (true, "316e91d4f85f4fadb16f34eea241d58b85a2912fa907c6613a9519d8e203c24b"), looks := false }, kinds := [], alts := [], laidByText := true, laidKinds := [.data, .data, .data, .funcsDeep], laidTests := true, laidLooks := .later }
def AlignMirroredCardSaid : Prop := Claim7.holds Tryz.pinned (.plain (OpenSpec.ofChange alignMirroredSpec)) alignMirroredCard

/-- THE TIED CARD OF 'versinelaw05.AlignSteady'. -/
def alignSteadyCard : Claim7 := { stood := { row := alignSteadyRow, standIns := [], harness := (true, "316e91d4f85f4fadb16f34eea241d58b85a2912fa907c6613a9519d8e203c24b"), looks := false }, kinds := [], alts := [], laidByText := true, laidKinds := [.data, .data, .data, .funcsDeep], laidTests := true, laidLooks := .later }
def AlignSteadyCardSaid : Prop := Claim7.holds Tryz.pinned (.plain (OpenSpec.ofChange alignSteadySpec)) alignSteadyCard

/-- THE TIED CARD OF 'versinelaw05.AlignMoves'. -/
def alignMovesCard : Claim7 := { stood := { row := alignMovesRow, standIns := [], harness := (true, "316e91d4f85f4fadb16f34eea241d58b85a2912fa907c6613a9519d8e203c24b"), looks := false }, kinds := [], alts := [], laidByText := true, laidKinds := [.data, .data, .data, .funcsDeep], laidTests := true, laidLooks := .later }
def AlignMovesCardSaid : Prop := Claim7.holds Tryz.pinned (.plain (OpenSpec.ofChange alignMovesSpec)) alignMovesCard

/-- THE TIED CARD OF 'versinelaw05.AlignFound'. -/
def alignFoundCard : Claim7 := { stood := { row := alignFoundRow, standIns := [], harness := (true, "316e91d4f85f4fadb16f34eea241d58b85a2912fa907c6613a9519d8e203c24b"), looks := false }, kinds := [], alts := [], laidByText := true, laidKinds := [.data, .data, .data, .funcsDeep], laidTests := true, laidLooks := .later }
def AlignFoundCardSaid : Prop := Claim7.holds Tryz.pinned (.plain (OpenSpec.ofChange alignFoundSpec)) alignFoundCard

/-- THE TIED CARD OF 'versinelaw05.AlignTexts'. -/
def alignTextsCard : Claim7 := { stood := { row := alignTextsRow, standIns := [], harness := (true, "316e91d4f85f4fadb16f34eea241d58b85a2912fa907c6613a9519d8e203c24b"), looks := false }, kinds := [], alts := [], laidByText := true, laidKinds := [.data, .data, .data, .data, .funcsDeep, .pinned], laidTests := true, laidLooks := .later }
def AlignTextsCardSaid : Prop := Claim7.holds Tryz.pinned (.plain (OpenSpec.ofChange alignTextsSpec)) alignTextsCard

/-- THE TIED CARD OF 'versinelaw05.AlignBack'. -/
def alignBackCard : Claim7 := { stood := { row := alignBackRow, standIns := [], harness := (true, "316e91d4f85f4fadb16f34eea241d58b85a2912fa907c6613a9519d8e203c24b"), looks := false }, kinds := [], alts := [], laidByText := true, laidKinds := [.data, .data, .data, .data, .funcsDeep, .pinned], laidTests := true, laidLooks := .later }
def AlignBackCardSaid : Prop := Claim7.holds Tryz.pinned (.plain (OpenSpec.ofChange alignBackSpec)) alignBackCard

/-- THE SECOND FORM's CARD OF 'versinelaw05.AlignLeast'. -/
def alignLeastUptoCard : Claim7 := { stood := { row := alignLeastUptoRow, standIns := [], harness := (true, "316e91d4f85f4fadb16f34eea241d58b85a2912fa907c6613a9519d8e203c24b"), looks := false }, kinds := [], alts := [], laidByText := true, laidKinds := [.data, .data, .data, .funcsDeep], laidTests := true, laidLooks := .later }
def AlignLeastUptoCardSaid : Prop := Claim7.holds Tryz.pinned (.plain (OpenSpec.upto alignLeastSpec)) alignLeastUptoCard

/-- THE SECOND FORM's CARD OF 'versinelaw05.AlignTables'. -/
def alignTablesUptoCard : Claim7 := { stood := { row := alignTablesUptoRow, standIns := [], harness := (true, "316e91d4f85f4fadb16f34eea241d58b85a2912fa907c6613a9519d8e203c24b"), looks := false }, kinds := [], alts := [], laidByText := true, laidKinds := [.data, .data, .data, .funcsDeep], laidTests := true, laidLooks := .later }
def AlignTablesUptoCardSaid : Prop := Claim7.holds Tryz.pinned (.plain (OpenSpec.upto alignTablesSpec)) alignTablesUptoCard

/-- THE SECOND FORM's CARD OF 'versinelaw05.AlignRegisters'. -/
def alignRegistersUptoCard : Claim7 := { stood := { row := alignRegistersUptoRow, standIns := [], harness := (true, "316e91d4f85f4fadb16f34eea241d58b85a2912fa907c6613a9519d8e203c24b"), looks := false }, kinds := [], alts := [], laidByText := true, laidKinds := [.data, .data, .data, .funcsDeep], laidTests := true, laidLooks := .later }
def AlignRegistersUptoCardSaid : Prop := Claim7.holds Tryz.pinned (.plain (OpenSpec.upto alignRegistersSpec)) alignRegistersUptoCard

/-- THE SECOND FORM's CARD OF 'versinelaw05.AlignShifts'. -/
def alignShiftsUptoCard : Claim7 := { stood := { row := alignShiftsUptoRow, standIns := [], harness := (true, "316e91d4f85f4fadb16f34eea241d58b85a2912fa907c6613a9519d8e203c24b"), looks := false }, kinds := [], alts := [], laidByText := true, laidKinds := [.data, .data, .data, .funcsDeep], laidTests := true, laidLooks := .later }
def AlignShiftsUptoCardSaid : Prop := Claim7.holds Tryz.pinned (.plain (OpenSpec.upto alignShiftsSpec)) alignShiftsUptoCard

/-- THE SECOND FORM's CARD OF 'versinelaw05.AlignProved'. -/
def alignProvedUptoCard : Claim7 := { stood := { row := alignProvedUptoRow, standIns := [], harness := (true, "316e91d4f85f4fadb16f34eea241d58b85a2912fa907c6613a9519d8e203c24b"), looks := false }, kinds := [], alts := [], laidByText := true, laidKinds := [.data, .data, .data, .funcsDeep], laidTests := true, laidLooks := .later }
def AlignProvedUptoCardSaid : Prop := Claim7.holds Tryz.pinned (.plain (OpenSpec.upto alignProvedSpec)) alignProvedUptoCard

/-- THE SECOND FORM's CARD OF 'versinelaw05.AlignMirrored'. -/
def alignMirroredUptoCard : Claim7 := { stood := { row := alignMirroredUptoRow, standIns := [], harness := (true, "316e91d4f85f4fadb16f34eea241d58b85a2912fa907c6613a9519d8e203c24b"), looks := false }, kinds := [], alts := [], laidByText := true, laidKinds := [.data, .data, .data, .funcsDeep], laidTests := true, laidLooks := .later }
def AlignMirroredUptoCardSaid : Prop := Claim7.holds Tryz.pinned (.plain (OpenSpec.upto alignMirroredSpec)) alignMirroredUptoCard

/-- THE SECOND FORM's CARD OF 'versinelaw05.AlignSteady'. -/
def alignSteadyUptoCard : Claim7 := { stood := { row := alignSteadyUptoRow, standIns := [], harness := (true, "316e91d4f85f4fadb16f34eea241d58b85a2912fa907c6613a9519d8e203c24b"), looks := false }, kinds := [], alts := [], laidByText := true, laidKinds := [.data, .data, .data, .funcsDeep], laidTests := true, laidLooks := .later }
def AlignSteadyUptoCardSaid : Prop := Claim7.holds Tryz.pinned (.plain (OpenSpec.upto alignSteadySpec)) alignSteadyUptoCard

/-- THE SECOND FORM's CARD OF 'versinelaw05.AlignMoves'. -/
def alignMovesUptoCard : Claim7 := { stood := { row := alignMovesUptoRow, standIns := [], harness := (true, "316e91d4f85f4fadb16f34eea241d58b85a2912fa907c6613a9519d8e203c24b"), looks := false }, kinds := [], alts := [], laidByText := true, laidKinds := [.data, .data, .data, .funcsDeep], laidTests := true, laidLooks := .later }
def AlignMovesUptoCardSaid : Prop := Claim7.holds Tryz.pinned (.plain (OpenSpec.upto alignMovesSpec)) alignMovesUptoCard

/-- THE SECOND FORM's CARD OF 'versinelaw05.AlignFound'. -/
def alignFoundUptoCard : Claim7 := { stood := { row := alignFoundUptoRow, standIns := [], harness := (true, "316e91d4f85f4fadb16f34eea241d58b85a2912fa907c6613a9519d8e203c24b"), looks := false }, kinds := [], alts := [], laidByText := true, laidKinds := [.data, .data, .data, .funcsDeep], laidTests := true, laidLooks := .later }
def AlignFoundUptoCardSaid : Prop := Claim7.holds Tryz.pinned (.plain (OpenSpec.upto alignFoundSpec)) alignFoundUptoCard

/-- THE SECOND FORM's CARD OF 'versinelaw05.AlignTexts'. -/
def alignTextsUptoCard : Claim7 := { stood := { row := alignTextsUptoRow, standIns := [], harness := (true, "316e91d4f85f4fadb16f34eea241d58b85a2912fa907c6613a9519d8e203c24b"), looks := false }, kinds := [], alts := [], laidByText := true, laidKinds := [.data, .data, .data, .data, .funcsDeep, .pinned], laidTests := true, laidLooks := .later }
def AlignTextsUptoCardSaid : Prop := Claim7.holds Tryz.pinned (.plain (OpenSpec.upto alignTextsSpec)) alignTextsUptoCard

/-- THE SECOND FORM's CARD OF 'versinelaw05.AlignBack'. -/
def alignBackUptoCard : Claim7 := { stood := { row := alignBackUptoRow, standIns := [], harness := (true, "316e91d4f85f4fadb16f34eea241d58b85a2912fa907c6613a9519d8e203c24b"), looks := false }, kinds := [], alts := [], laidByText := true, laidKinds := [.data, .data, .data, .data, .funcsDeep, .pinned], laidTests := true, laidLooks := .later }
def AlignBackUptoCardSaid : Prop := Claim7.holds Tryz.pinned (.plain (OpenSpec.upto alignBackSpec)) alignBackUptoCard
end Rows
end Go.Proofs.YtoopgdchiljmiaaGreatDoor
