/-
  DERIVED. GIVEN WITH THE SEED: THE CARDS: each row of YthjdkmibfngjbaaGreatDoorRows.lean that lists a variable, with what it lists TIED to the program's text (the seventh form; the later family's looks); each row that meets fmt, with fmt's text TOLD by the authors' own Lean function (tested against real Go, not proved from fmt's source: count such statements apart). THE CARD IS WHAT COUNTS. Prove the row's statement (the work); the ties are given (YthjdkmibfngjbaaGreatDoorTie.lean); close each card by the builder's one call (the guide's Derived/Test/ToyasCard.lean, 'card_holds'). Laid BY PROGRAM, IN A SANDBOX (cutbox-door.mjs). By AI agents, Wed Nov 11 2026. No macro, syntax, notation, axiom, sorry.
-/
import Derived.Test.YthjdkmibfngjbaaGreatDoorRows
import GoSem.ClaimSeven
namespace Go.Proofs.YthjdkmibfngjbaaGreatDoor
namespace Rows

/-- THE TIED CARD OF 'versinelaw05.AlignRides'. -/
def alignRidesCard : Claim7 := { stood := { row := alignRidesRow, standIns := [], harness := (true, "00667be8e1abc311a0dd3fe2c6f3afbb6df1857688d765aa1e105f3a10cd6ef0"), looks := false }, kinds := [], alts := [], laidByText := true, laidKinds := [.data, .data, .data, .funcsDeep], laidTests := true, laidLooks := .later }
def AlignRidesCardSaid : Prop := Claim7.holds Tryz.pinned (.plain (OpenSpec.ofChange alignRidesSpec)) alignRidesCard

/-- THE TIED CARD OF 'versinelaw05.AlignTurns'. -/
def alignTurnsCard : Claim7 := { stood := { row := alignTurnsRow, standIns := [], harness := (true, "00667be8e1abc311a0dd3fe2c6f3afbb6df1857688d765aa1e105f3a10cd6ef0"), looks := false }, kinds := [], alts := [], laidByText := true, laidKinds := [.data, .data, .data, .funcsDeep], laidTests := true, laidLooks := .later }
def AlignTurnsCardSaid : Prop := Claim7.holds Tryz.pinned (.plain (OpenSpec.ofChange alignTurnsSpec)) alignTurnsCard

/-- THE TIED CARD OF 'versinelaw05.AlignPlaces'. -/
def alignPlacesCard : Claim7 := { stood := { row := alignPlacesRow, standIns := [], harness := (true, "00667be8e1abc311a0dd3fe2c6f3afbb6df1857688d765aa1e105f3a10cd6ef0"), looks := false }, kinds := [], alts := [], laidByText := true, laidKinds := [.data, .data, .data, .funcsDeep], laidTests := true, laidLooks := .later }
def AlignPlacesCardSaid : Prop := Claim7.holds Tryz.pinned (.plain (OpenSpec.ofChange alignPlacesSpec)) alignPlacesCard

/-- THE TIED CARD OF 'versinelaw05.AlignMoves'. -/
def alignMovesCard : Claim7 := { stood := { row := alignMovesRow, standIns := [], harness := (true, "00667be8e1abc311a0dd3fe2c6f3afbb6df1857688d765aa1e105f3a10cd6ef0"), looks := false }, kinds := [], alts := [], laidByText := true, laidKinds := [.data, .data, .data, .funcsDeep], laidTests := true, laidLooks := .later }
def AlignMovesCardSaid : Prop := Claim7.holds Tryz.pinned (.plain (OpenSpec.ofChange alignMovesSpec)) alignMovesCard

/-- THE SECOND FORM's CARD OF 'versinelaw05.AlignRides'. -/
def alignRidesUptoCard : Claim7 := { stood := { row := alignRidesUptoRow, standIns := [], harness := (true, "00667be8e1abc311a0dd3fe2c6f3afbb6df1857688d765aa1e105f3a10cd6ef0"), looks := false }, kinds := [], alts := [], laidByText := true, laidKinds := [.data, .data, .data, .funcsDeep], laidTests := true, laidLooks := .later }
def AlignRidesUptoCardSaid : Prop := Claim7.holds Tryz.pinned (.plain (OpenSpec.upto alignRidesSpec)) alignRidesUptoCard

/-- THE SECOND FORM's CARD OF 'versinelaw05.AlignTurns'. -/
def alignTurnsUptoCard : Claim7 := { stood := { row := alignTurnsUptoRow, standIns := [], harness := (true, "00667be8e1abc311a0dd3fe2c6f3afbb6df1857688d765aa1e105f3a10cd6ef0"), looks := false }, kinds := [], alts := [], laidByText := true, laidKinds := [.data, .data, .data, .funcsDeep], laidTests := true, laidLooks := .later }
def AlignTurnsUptoCardSaid : Prop := Claim7.holds Tryz.pinned (.plain (OpenSpec.upto alignTurnsSpec)) alignTurnsUptoCard

/-- THE SECOND FORM's CARD OF 'versinelaw05.AlignPlaces'. -/
def alignPlacesUptoCard : Claim7 := { stood := { row := alignPlacesUptoRow, standIns := [], harness := (true, "00667be8e1abc311a0dd3fe2c6f3afbb6df1857688d765aa1e105f3a10cd6ef0"), looks := false }, kinds := [], alts := [], laidByText := true, laidKinds := [.data, .data, .data, .funcsDeep], laidTests := true, laidLooks := .later }
def AlignPlacesUptoCardSaid : Prop := Claim7.holds Tryz.pinned (.plain (OpenSpec.upto alignPlacesSpec)) alignPlacesUptoCard

/-- THE SECOND FORM's CARD OF 'versinelaw05.AlignMoves'. -/
def alignMovesUptoCard : Claim7 := { stood := { row := alignMovesUptoRow, standIns := [], harness := (true, "00667be8e1abc311a0dd3fe2c6f3afbb6df1857688d765aa1e105f3a10cd6ef0"), looks := false }, kinds := [], alts := [], laidByText := true, laidKinds := [.data, .data, .data, .funcsDeep], laidTests := true, laidLooks := .later }
def AlignMovesUptoCardSaid : Prop := Claim7.holds Tryz.pinned (.plain (OpenSpec.upto alignMovesSpec)) alignMovesUptoCard
end Rows
end Go.Proofs.YthjdkmibfngjbaaGreatDoor
