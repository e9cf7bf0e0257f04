/-
  DERIVED. GIVEN WITH THE SEED: THE CARDS: each row of YtbpffadffbgloaaDoorRows.lean that lists a variable, with what it lists TIED to the program's text (the seventh form; the later family's looks); each row that meets fmt, with fmt's text TOLD by the authors' own Lean function (tested against real Go, not proved from fmt's source: count such statements apart). THE CARD IS WHAT COUNTS. Prove the row's statement (the work); the ties are given (YtbpffadffbgloaaDoorTie.lean); close each card by the builder's one call (the guide's Derived/Test/ToyasCard.lean, 'card_holds'). Laid BY PROGRAM, IN A SANDBOX (cutbox-door.mjs). By AI agents, Wed Nov 11 2026. No macro, syntax, notation, axiom, sorry.
-/
import Derived.Test.YtbpffadffbgloaaDoorRows
import GoSem.ClaimSeven
namespace Go.Proofs.YtbpffadffbgloaaDoor
namespace Rows

/-- THE TIED CARD OF 'versinelaw03.ChordVersines'. -/
def chordVersinesCard : Claim7 := { stood := { row := chordVersinesRow, standIns := [], harness := (true, "2c22df8d4ec529086830e73ec1524363c7f8554040771f06bbc2966f574766e4"), looks := false }, kinds := [], alts := [], laidByText := true, laidKinds := [.data, .data, .data, .data], laidTests := true, laidLooks := .later }
def ChordVersinesCardSaid : Prop := Claim7.holds Tryd.pinned (.plain (OpenSpec.ofChange chordVersinesSpec)) chordVersinesCard

/-- THE TIED CARD OF 'versinelaw03.ChordWeighted'. -/
def chordWeightedCard : Claim7 := { stood := { row := chordWeightedRow, standIns := [], harness := (true, "2c22df8d4ec529086830e73ec1524363c7f8554040771f06bbc2966f574766e4"), looks := false }, kinds := [], alts := [], laidByText := true, laidKinds := [.data, .data, .data, .data], laidTests := true, laidLooks := .later }
def ChordWeightedCardSaid : Prop := Claim7.holds Tryd.pinned (.plain (OpenSpec.ofChange chordWeightedSpec)) chordWeightedCard

/-- THE TIED CARD OF 'versinelaw03.ChordWaves'. -/
def chordWavesCard : Claim7 := { stood := { row := chordWavesRow, standIns := [], harness := (true, "2c22df8d4ec529086830e73ec1524363c7f8554040771f06bbc2966f574766e4"), looks := false }, kinds := [], alts := [], laidByText := true, laidKinds := [.data, .data, .data, .data], laidTests := true, laidLooks := .later }
def ChordWavesCardSaid : Prop := Claim7.holds Tryd.pinned (.plain (OpenSpec.ofChange chordWavesSpec)) chordWavesCard

/-- THE TIED CARD OF 'versinelaw03.ChordBands'. -/
def chordBandsCard : Claim7 := { stood := { row := chordBandsRow, standIns := [], harness := (true, "2c22df8d4ec529086830e73ec1524363c7f8554040771f06bbc2966f574766e4"), looks := false }, kinds := [], alts := [], laidByText := true, laidKinds := [.data, .data, .data, .data], laidTests := true, laidLooks := .later }
def ChordBandsCardSaid : Prop := Claim7.holds Tryd.pinned (.plain (OpenSpec.ofChange chordBandsSpec)) chordBandsCard

/-- THE TIED CARD OF 'versinelaw03.ChordLong'. -/
def chordLongCard : Claim7 := { stood := { row := chordLongRow, standIns := [], harness := (true, "2c22df8d4ec529086830e73ec1524363c7f8554040771f06bbc2966f574766e4"), looks := false }, kinds := [], alts := [], laidByText := true, laidKinds := [.data, .data, .data, .data], laidTests := true, laidLooks := .later }
def ChordLongCardSaid : Prop := Claim7.holds Tryd.pinned (.plain (OpenSpec.ofChange chordLongSpec)) chordLongCard

/-- THE TIED CARD OF 'versinelaw03.ChordBlind'. -/
def chordBlindCard : Claim7 := { stood := { row := chordBlindRow, standIns := [], harness := (true, "2c22df8d4ec529086830e73ec1524363c7f8554040771f06bbc2966f574766e4"), looks := false }, kinds := [], alts := [], laidByText := true, laidKinds := [.data, .data, .data, .data], laidTests := true, laidLooks := .later }
def ChordBlindCardSaid : Prop := Claim7.holds Tryd.pinned (.plain (OpenSpec.ofChange chordBlindSpec)) chordBlindCard

/-- THE TIED CARD OF 'versinelaw03.ChordAgain'. -/
def chordAgainCard : Claim7 := { stood := { row := chordAgainRow, standIns := [], harness := (true, "2c22df8d4ec529086830e73ec1524363c7f8554040771f06bbc2966f574766e4"), looks := false }, kinds := [], alts := [], laidByText := true, laidKinds := [.data, .data, .data, .data], laidTests := true, laidLooks := .later }
def ChordAgainCardSaid : Prop := Claim7.holds Tryd.pinned (.plain (OpenSpec.ofChange chordAgainSpec)) chordAgainCard

/-- THE TIED CARD OF 'versinelaw03.ChordTraces'. -/
def chordTracesCard : Claim7 := { stood := { row := chordTracesRow, standIns := [], harness := (true, "2c22df8d4ec529086830e73ec1524363c7f8554040771f06bbc2966f574766e4"), looks := false }, kinds := [], alts := [], laidByText := true, laidKinds := [.data, .data, .data, .data], laidTests := true, laidLooks := .later }
def ChordTracesCardSaid : Prop := Claim7.holds Tryd.pinned (.plain (OpenSpec.ofChange chordTracesSpec)) chordTracesCard

/-- THE TIED CARD OF 'versinelaw03.ChordTurned'. -/
def chordTurnedCard : Claim7 := { stood := { row := chordTurnedRow, standIns := [], harness := (true, "2c22df8d4ec529086830e73ec1524363c7f8554040771f06bbc2966f574766e4"), looks := false }, kinds := [], alts := [], laidByText := true, laidKinds := [.data, .data, .data, .data], laidTests := true, laidLooks := .later }
def ChordTurnedCardSaid : Prop := Claim7.holds Tryd.pinned (.plain (OpenSpec.ofChange chordTurnedSpec)) chordTurnedCard

/-- THE SECOND FORM's CARD OF 'versinelaw03.ChordVersines'. -/
def chordVersinesUptoCard : Claim7 := { stood := { row := chordVersinesUptoRow, standIns := [], harness := (true, "2c22df8d4ec529086830e73ec1524363c7f8554040771f06bbc2966f574766e4"), looks := false }, kinds := [], alts := [], laidByText := true, laidKinds := [.data, .data, .data, .data], laidTests := true, laidLooks := .later }
def ChordVersinesUptoCardSaid : Prop := Claim7.holds Tryd.pinned (.plain (OpenSpec.upto chordVersinesSpec)) chordVersinesUptoCard

/-- THE SECOND FORM's CARD OF 'versinelaw03.ChordWeighted'. -/
def chordWeightedUptoCard : Claim7 := { stood := { row := chordWeightedUptoRow, standIns := [], harness := (true, "2c22df8d4ec529086830e73ec1524363c7f8554040771f06bbc2966f574766e4"), looks := false }, kinds := [], alts := [], laidByText := true, laidKinds := [.data, .data, .data, .data], laidTests := true, laidLooks := .later }
def ChordWeightedUptoCardSaid : Prop := Claim7.holds Tryd.pinned (.plain (OpenSpec.upto chordWeightedSpec)) chordWeightedUptoCard

/-- THE SECOND FORM's CARD OF 'versinelaw03.ChordWaves'. -/
def chordWavesUptoCard : Claim7 := { stood := { row := chordWavesUptoRow, standIns := [], harness := (true, "2c22df8d4ec529086830e73ec1524363c7f8554040771f06bbc2966f574766e4"), looks := false }, kinds := [], alts := [], laidByText := true, laidKinds := [.data, .data, .data, .data], laidTests := true, laidLooks := .later }
def ChordWavesUptoCardSaid : Prop := Claim7.holds Tryd.pinned (.plain (OpenSpec.upto chordWavesSpec)) chordWavesUptoCard

/-- THE SECOND FORM's CARD OF 'versinelaw03.ChordBands'. -/
def chordBandsUptoCard : Claim7 := { stood := { row := chordBandsUptoRow, standIns := [], harness := (true, "2c22df8d4ec529086830e73ec1524363c7f8554040771f06bbc2966f574766e4"), looks := false }, kinds := [], alts := [], laidByText := true, laidKinds := [.data, .data, .data, .data], laidTests := true, laidLooks := .later }
def ChordBandsUptoCardSaid : Prop := Claim7.holds Tryd.pinned (.plain (OpenSpec.upto chordBandsSpec)) chordBandsUptoCard

/-- THE SECOND FORM's CARD OF 'versinelaw03.ChordLong'. -/
def chordLongUptoCard : Claim7 := { stood := { row := chordLongUptoRow, standIns := [], harness := (true, "2c22df8d4ec529086830e73ec1524363c7f8554040771f06bbc2966f574766e4"), looks := false }, kinds := [], alts := [], laidByText := true, laidKinds := [.data, .data, .data, .data], laidTests := true, laidLooks := .later }
def ChordLongUptoCardSaid : Prop := Claim7.holds Tryd.pinned (.plain (OpenSpec.upto chordLongSpec)) chordLongUptoCard

/-- THE SECOND FORM's CARD OF 'versinelaw03.ChordBlind'. -/
def chordBlindUptoCard : Claim7 := { stood := { row := chordBlindUptoRow, standIns := [], harness := (true, "2c22df8d4ec529086830e73ec1524363c7f8554040771f06bbc2966f574766e4"), looks := false }, kinds := [], alts := [], laidByText := true, laidKinds := [.data, .data, .data, .data], laidTests := true, laidLooks := .later }
def ChordBlindUptoCardSaid : Prop := Claim7.holds Tryd.pinned (.plain (OpenSpec.upto chordBlindSpec)) chordBlindUptoCard

/-- THE SECOND FORM's CARD OF 'versinelaw03.ChordAgain'. -/
def chordAgainUptoCard : Claim7 := { stood := { row := chordAgainUptoRow, standIns := [], harness := (true, "2c22df8d4ec529086830e73ec1524363c7f8554040771f06bbc2966f574766e4"), looks := false }, kinds := [], alts := [], laidByText := true, laidKinds := [.data, .data, .data, .data], laidTests := true, laidLooks := .later }
def ChordAgainUptoCardSaid : Prop := Claim7.holds Tryd.pinned (.plain (OpenSpec.upto chordAgainSpec)) chordAgainUptoCard

/-- THE SECOND FORM's CARD OF 'versinelaw03.ChordTraces'. -/
def chordTracesUptoCard : Claim7 := { stood := { row := chordTracesUptoRow, standIns := [], harness := (true, "2c22df8d4ec529086830e73ec1524363c7f8554040771f06bbc2966f574766e4"), looks := false }, kinds := [], alts := [], laidByText := true, laidKinds := [.data, .data, .data, .data], laidTests := true, laidLooks := .later }
def ChordTracesUptoCardSaid : Prop := Claim7.holds Tryd.pinned (.plain (OpenSpec.upto chordTracesSpec)) chordTracesUptoCard

/-- THE SECOND FORM's CARD OF 'versinelaw03.ChordTurned'. -/
def chordTurnedUptoCard : Claim7 := { stood := { row := chordTurnedUptoRow, standIns := [], harness := (true, "2c22df8d4ec529086830e73ec1524363c7f8554040771f06bbc2966f574766e4"), looks := false }, kinds := [], alts := [], laidByText := true, laidKinds := [.data, .data, .data, .data], laidTests := true, laidLooks := .later }
def ChordTurnedUptoCardSaid : Prop := Claim7.holds Tryd.pinned (.plain (OpenSpec.upto chordTurnedSpec)) chordTurnedUptoCard
end Rows
end Go.Proofs.YtbpffadffbgloaaDoor
