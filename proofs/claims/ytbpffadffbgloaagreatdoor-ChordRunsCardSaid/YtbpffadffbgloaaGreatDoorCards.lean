/-
  DERIVED. GIVEN WITH THE SEED: THE CARDS: each row of YtbpffadffbgloaaGreatDoorRows.lean that lists a variable, with what it lists TIED to the program's text (the seventh form; the later family's looks); each row that meets fmt, with fmt's text TOLD by the authors' own Lean function (tested against real Go, not proved from fmt's source: count such statements apart). THE CARD IS WHAT COUNTS. Prove the row's statement (the work); the ties are given (YtbpffadffbgloaaGreatDoorTie.lean); close each card by the builder's one call (the guide's Derived/Test/ToyasCard.lean, 'card_holds'). Laid BY PROGRAM, IN A SANDBOX (cutbox-door.mjs). By AI agents, Wed Nov 11 2026. No macro, syntax, notation, axiom, sorry.
-/
import Derived.Test.YtbpffadffbgloaaGreatDoorRows
import GoSem.ClaimSeven
namespace Go.Proofs.YtbpffadffbgloaaGreatDoor
namespace Rows

/-- THE TIED CARD OF 'versinelaw03.ChordPanels'. -/
def chordPanelsCard : Claim7 := { stood := { row := chordPanelsRow, standIns := [], harness := (true, "c85a65878f59ad42dcc59d23154c076c81d614f8d80f2b589abb9423ab813b4e"), looks := false }, kinds := [], alts := [], laidByText := true, laidKinds := [.data, .data, .data, .data], laidTests := true, laidLooks := .later }
def ChordPanelsCardSaid : Prop := Claim7.holds Tryz.pinned (.plain (OpenSpec.ofChange chordPanelsSpec)) chordPanelsCard

/-- THE TIED CARD OF 'versinelaw03.ChordRestored'. -/
def chordRestoredCard : Claim7 := { stood := { row := chordRestoredRow, standIns := [], harness := (true, "c85a65878f59ad42dcc59d23154c076c81d614f8d80f2b589abb9423ab813b4e"), looks := false }, kinds := [], alts := [], laidByText := true, laidKinds := [.data, .data, .data, .data], laidTests := true, laidLooks := .later }
def ChordRestoredCardSaid : Prop := Claim7.holds Tryz.pinned (.plain (OpenSpec.ofChange chordRestoredSpec)) chordRestoredCard

/-- THE TIED CARD OF 'versinelaw03.ChordRuns'. -/
def chordRunsCard : Claim7 := { stood := { row := chordRunsRow, standIns := [], harness := (true, "c85a65878f59ad42dcc59d23154c076c81d614f8d80f2b589abb9423ab813b4e"), looks := false }, kinds := [], alts := [], laidByText := true, laidKinds := [.data, .data, .data, .data], laidTests := true, laidLooks := .later }
def ChordRunsCardSaid : Prop := Claim7.holds Tryz.pinned (.plain (OpenSpec.ofChange chordRunsSpec)) chordRunsCard

/-- THE TIED CARD OF 'versinelaw03.ChordTexts'. -/
def chordTextsCard : Claim7 := { stood := { row := chordTextsRow, standIns := [], harness := (true, "c85a65878f59ad42dcc59d23154c076c81d614f8d80f2b589abb9423ab813b4e"), looks := false }, kinds := [], alts := [], laidByText := true, laidKinds := [.data, .data, .data, .data, .data, .pinned], laidTests := true, laidLooks := .later }
def ChordTextsCardSaid : Prop := Claim7.holds Tryz.pinned (.plain (OpenSpec.ofChange chordTextsSpec)) chordTextsCard

/-- THE TIED CARD OF 'versinelaw03.ChordBack'. -/
def chordBackCard : Claim7 := { stood := { row := chordBackRow, standIns := [], harness := (true, "c85a65878f59ad42dcc59d23154c076c81d614f8d80f2b589abb9423ab813b4e"), looks := false }, kinds := [], alts := [], laidByText := true, laidKinds := [.data, .data, .data, .data, .data, .pinned], laidTests := true, laidLooks := .later }
def ChordBackCardSaid : Prop := Claim7.holds Tryz.pinned (.plain (OpenSpec.ofChange chordBackSpec)) chordBackCard

/-- THE SECOND FORM's CARD OF 'versinelaw03.ChordPanels'. -/
def chordPanelsUptoCard : Claim7 := { stood := { row := chordPanelsUptoRow, standIns := [], harness := (true, "c85a65878f59ad42dcc59d23154c076c81d614f8d80f2b589abb9423ab813b4e"), looks := false }, kinds := [], alts := [], laidByText := true, laidKinds := [.data, .data, .data, .data], laidTests := true, laidLooks := .later }
def ChordPanelsUptoCardSaid : Prop := Claim7.holds Tryz.pinned (.plain (OpenSpec.upto chordPanelsSpec)) chordPanelsUptoCard

/-- THE SECOND FORM's CARD OF 'versinelaw03.ChordRestored'. -/
def chordRestoredUptoCard : Claim7 := { stood := { row := chordRestoredUptoRow, standIns := [], harness := (true, "c85a65878f59ad42dcc59d23154c076c81d614f8d80f2b589abb9423ab813b4e"), looks := false }, kinds := [], alts := [], laidByText := true, laidKinds := [.data, .data, .data, .data], laidTests := true, laidLooks := .later }
def ChordRestoredUptoCardSaid : Prop := Claim7.holds Tryz.pinned (.plain (OpenSpec.upto chordRestoredSpec)) chordRestoredUptoCard

/-- THE SECOND FORM's CARD OF 'versinelaw03.ChordRuns'. -/
def chordRunsUptoCard : Claim7 := { stood := { row := chordRunsUptoRow, standIns := [], harness := (true, "c85a65878f59ad42dcc59d23154c076c81d614f8d80f2b589abb9423ab813b4e"), looks := false }, kinds := [], alts := [], laidByText := true, laidKinds := [.data, .data, .data, .data], laidTests := true, laidLooks := .later }
def ChordRunsUptoCardSaid : Prop := Claim7.holds Tryz.pinned (.plain (OpenSpec.upto chordRunsSpec)) chordRunsUptoCard

/-- THE SECOND FORM's CARD OF 'versinelaw03.ChordTexts'. -/
def chordTextsUptoCard : Claim7 := { stood := { row := chordTextsUptoRow, standIns := [], harness := (true, "c85a65878f59ad42dcc59d23154c076c81d614f8d80f2b589abb9423ab813b4e"), looks := false }, kinds := [], alts := [], laidByText := true, laidKinds := [.data, .data, .data, .data, .data, .pinned], laidTests := true, laidLooks := .later }
def ChordTextsUptoCardSaid : Prop := Claim7.holds Tryz.pinned (.plain (OpenSpec.upto chordTextsSpec)) chordTextsUptoCard

/-- THE SECOND FORM's CARD OF 'versinelaw03.ChordBack'. -/
def chordBackUptoCard : Claim7 := { stood := { row := chordBackUptoRow, standIns := [], harness := (true, "c85a65878f59ad42dcc59d23154c076c81d614f8d80f2b589abb9423ab813b4e"), looks := false }, kinds := [], alts := [], laidByText := true, laidKinds := [.data, .data, .data, .data, .data, .pinned], laidTests := true, laidLooks := .later }
def ChordBackUptoCardSaid : Prop := Claim7.holds Tryz.pinned (.plain (OpenSpec.upto chordBackSpec)) chordBackUptoCard
end Rows
end Go.Proofs.YtbpffadffbgloaaGreatDoor
