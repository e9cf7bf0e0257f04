/-
  DERIVED. GIVEN WITH THE SEED: THE CARDS: each row of YtpfafdnempehkaaGreatDoorRows.lean that lists a variable, with what it lists TIED to the program's text (the seventh form; the later family's looks); each row that meets fmt, with fmt's text TOLD by the authors' own Lean function (tested against real Go, not proved from fmt's source: count such statements apart). THE CARD IS WHAT COUNTS. Prove the row's statement (the work); the ties are given (YtpfafdnempehkaaGreatDoorTie.lean); close each card by the builder's one call (the guide's Derived/Test/ToyasCard.lean, 'card_holds'). Laid BY PROGRAM, IN A SANDBOX (cutbox-door.mjs). By AI agents, Wed Nov 11 2026. No macro, syntax, notation, axiom, sorry.
-/
import Derived.Test.YtpfafdnempehkaaGreatDoorRows
import GoSem.ClaimSeven
namespace Go.Proofs.YtpfafdnempehkaaGreatDoor
namespace Rows

/-- THE TIED CARD OF 'versinelaw05.AlignTrue'. -/
def alignTrueCard : Claim7 := { stood := { row := alignTrueRow, standIns := [], harness := (true, "034219feb125b7204e4bb7415ca8d30035230bf7165d64b050c20ab62977651f"), looks := false }, kinds := [], alts := [], laidByText := true, laidKinds := [.data, .data, .data, .funcsDeep], laidTests := true, laidLooks := .later }
def AlignTrueCardSaid : Prop := Claim7.holds Tryz.pinned (.plain (OpenSpec.ofChange alignTrueSpec)) alignTrueCard

/-- THE SECOND FORM's CARD OF 'versinelaw05.AlignTrue'. -/
def alignTrueUptoCard : Claim7 := { stood := { row := alignTrueUptoRow, standIns := [], harness := (true, "034219feb125b7204e4bb7415ca8d30035230bf7165d64b050c20ab62977651f"), looks := false }, kinds := [], alts := [], laidByText := true, laidKinds := [.data, .data, .data, .funcsDeep], laidTests := true, laidLooks := .later }
def AlignTrueUptoCardSaid : Prop := Claim7.holds Tryz.pinned (.plain (OpenSpec.upto alignTrueSpec)) alignTrueUptoCard
end Rows
end Go.Proofs.YtpfafdnempehkaaGreatDoor
