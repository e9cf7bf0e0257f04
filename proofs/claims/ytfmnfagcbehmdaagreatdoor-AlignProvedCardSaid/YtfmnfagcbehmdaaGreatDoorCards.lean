/-
  DERIVED. GIVEN WITH THE SEED: THE CARDS: each row of YtfmnfagcbehmdaaGreatDoorRows.lean that lists a variable, with what it lists TIED to the program's text (the seventh form; the later family's looks); each row that meets fmt, with fmt's text TOLD by the authors' own Lean function (tested against real Go, not proved from fmt's source: count such statements apart). THE CARD IS WHAT COUNTS. Prove the row's statement (the work); the ties are given (YtfmnfagcbehmdaaGreatDoorTie.lean); close each card by the builder's one call (the guide's Derived/Test/ToyasCard.lean, 'card_holds'). Laid BY PROGRAM, IN A SANDBOX (cutbox-door.mjs). By AI agents, Wed Nov 11 2026. No macro, syntax, notation, axiom, sorry.
-/
import Derived.Test.YtfmnfagcbehmdaaGreatDoorRows
import GoSem.ClaimSeven
namespace Go.Proofs.YtfmnfagcbehmdaaGreatDoor
namespace Rows

/-- THE TIED CARD OF 'versinelaw05.AlignLeast'. -/
def alignLeastCard : Claim7 := { stood := { row := alignLeastRow, standIns := [], harness := (true, "7a447073693a53a0f297509166117bc8368e234881f88dd56f7c962d90e71d8f"), looks := false }, kinds := [], alts := [], laidByText := true, laidKinds := [.data, .data, .data, .funcsDeep], laidTests := true, laidLooks := .later }
def AlignLeastCardSaid : Prop := Claim7.holds Tryz.pinned (.plain (OpenSpec.ofChange alignLeastSpec)) alignLeastCard

/-- THE TIED CARD OF 'versinelaw05.AlignTables'. -/
def alignTablesCard : Claim7 := { stood := { row := alignTablesRow, standIns := [], harness := (true, "7a447073693a53a0f297509166117bc8368e234881f88dd56f7c962d90e71d8f"), looks := false }, kinds := [], alts := [], laidByText := true, laidKinds := [.data, .data, .data, .funcsDeep], laidTests := true, laidLooks := .later }
def AlignTablesCardSaid : Prop := Claim7.holds Tryz.pinned (.plain (OpenSpec.ofChange alignTablesSpec)) alignTablesCard

/-- THE TIED CARD OF 'versinelaw05.AlignProved'. -/
def alignProvedCard : Claim7 := { stood := { row := alignProvedRow, standIns := [], harness := (true, "7a447073693a53a0f297509166117bc8368e234881f88dd56f7c962d90e71d8f"), looks := false }, kinds := [], alts := [], laidByText := true, laidKinds := [.data, .data, .data, .funcsDeep], laidTests := true, laidLooks := .later }
def AlignProvedCardSaid : Prop := Claim7.holds Tryz.pinned (.plain (OpenSpec.ofChange alignProvedSpec)) alignProvedCard

/-- THE TIED CARD OF 'versinelaw05.AlignTexts'. -/
def alignTextsCard : Claim7 := { stood := { row := alignTextsRow, standIns := [], harness := (true, "7a447073693a53a0f297509166117bc8368e234881f88dd56f7c962d90e71d8f"), looks := false }, kinds := [], alts := [], laidByText := true, laidKinds := [.data, .data, .data, .data, .funcsDeep, .pinned], laidTests := true, laidLooks := .later }
def AlignTextsCardSaid : Prop := Claim7.holds Tryz.pinned (.plain (OpenSpec.ofChange alignTextsSpec)) alignTextsCard

/-- THE TIED CARD OF 'versinelaw05.AlignBack'. -/
def alignBackCard : Claim7 := { stood := { row := alignBackRow, standIns := [], harness := (true, "7a447073693a53a0f297509166117bc8368e234881f88dd56f7c962d90e71d8f"), looks := false }, kinds := [], alts := [], laidByText := true, laidKinds := [.data, .data, .data, .data, .funcsDeep, .pinned], laidTests := true, laidLooks := .later }
def AlignBackCardSaid : Prop := Claim7.holds Tryz.pinned (.plain (OpenSpec.ofChange alignBackSpec)) alignBackCard

/-- THE SECOND FORM's CARD OF 'versinelaw05.AlignLeast'. -/
def alignLeastUptoCard : Claim7 := { stood := { row := alignLeastUptoRow, standIns := [], harness := (true, "7a447073693a53a0f297509166117bc8368e234881f88dd56f7c962d90e71d8f"), looks := false }, kinds := [], alts := [], laidByText := true, laidKinds := [.data, .data, .data, .funcsDeep], laidTests := true, laidLooks := .later }
def AlignLeastUptoCardSaid : Prop := Claim7.holds Tryz.pinned (.plain (OpenSpec.upto alignLeastSpec)) alignLeastUptoCard

/-- THE SECOND FORM's CARD OF 'versinelaw05.AlignTables'. -/
def alignTablesUptoCard : Claim7 := { stood := { row := alignTablesUptoRow, standIns := [], harness := (true, "7a447073693a53a0f297509166117bc8368e234881f88dd56f7c962d90e71d8f"), looks := false }, kinds := [], alts := [], laidByText := true, laidKinds := [.data, .data, .data, .funcsDeep], laidTests := true, laidLooks := .later }
def AlignTablesUptoCardSaid : Prop := Claim7.holds Tryz.pinned (.plain (OpenSpec.upto alignTablesSpec)) alignTablesUptoCard

/-- THE SECOND FORM's CARD OF 'versinelaw05.AlignProved'. -/
def alignProvedUptoCard : Claim7 := { stood := { row := alignProvedUptoRow, standIns := [], harness := (true, "7a447073693a53a0f297509166117bc8368e234881f88dd56f7c962d90e71d8f"), looks := false }, kinds := [], alts := [], laidByText := true, laidKinds := [.data, .data, .data, .funcsDeep], laidTests := true, laidLooks := .later }
def AlignProvedUptoCardSaid : Prop := Claim7.holds Tryz.pinned (.plain (OpenSpec.upto alignProvedSpec)) alignProvedUptoCard

/-- THE SECOND FORM's CARD OF 'versinelaw05.AlignTexts'. -/
def alignTextsUptoCard : Claim7 := { stood := { row := alignTextsUptoRow, standIns := [], harness := (true, "7a447073693a53a0f297509166117bc8368e234881f88dd56f7c962d90e71d8f"), looks := false }, kinds := [], alts := [], laidByText := true, laidKinds := [.data, .data, .data, .data, .funcsDeep, .pinned], laidTests := true, laidLooks := .later }
def AlignTextsUptoCardSaid : Prop := Claim7.holds Tryz.pinned (.plain (OpenSpec.upto alignTextsSpec)) alignTextsUptoCard

/-- THE SECOND FORM's CARD OF 'versinelaw05.AlignBack'. -/
def alignBackUptoCard : Claim7 := { stood := { row := alignBackUptoRow, standIns := [], harness := (true, "7a447073693a53a0f297509166117bc8368e234881f88dd56f7c962d90e71d8f"), looks := false }, kinds := [], alts := [], laidByText := true, laidKinds := [.data, .data, .data, .data, .funcsDeep, .pinned], laidTests := true, laidLooks := .later }
def AlignBackUptoCardSaid : Prop := Claim7.holds Tryz.pinned (.plain (OpenSpec.upto alignBackSpec)) alignBackUptoCard
end Rows
end Go.Proofs.YtfmnfagcbehmdaaGreatDoor
