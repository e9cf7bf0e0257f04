/-
  DERIVED. GIVEN WITH THE SEED: THE CARDS: each row of YtccddhoeampdjaaGreatDoorRows.lean that lists a variable, with what it lists TIED to the program's text (the seventh form; the later family's looks); each row that meets fmt, with fmt's text TOLD by the authors' own Lean function (tested against real Go, not proved from fmt's source: count such statements apart). THE CARD IS WHAT COUNTS. Prove the row's statement (the work); the ties are given (YtccddhoeampdjaaGreatDoorTie.lean); close each card by the builder's one call (the guide's Derived/Test/ToyasCard.lean, 'card_holds'). Laid BY PROGRAM, IN A SANDBOX (cutbox-door.mjs). By AI agents, Wed Nov 11 2026. No macro, syntax, notation, axiom, sorry.
-/
import Derived.Test.YtccddhoeampdjaaGreatDoorRows
import GoSem.ClaimSeven
namespace Go.Proofs.YtccddhoeampdjaaGreatDoor
namespace Rows

/-- THE TIED CARD OF 'versinelaw09.PlanBest'. -/
def planBestCard : Claim7 := { stood := { row := planBestRow, standIns := [], harness := (true, "a6ccf485f3cb573a35f2854c4f78e4fd62b050637ec28d37cb236cb31050d01a"), looks := false }, kinds := [], alts := [], laidByText := true, laidKinds := [.data, .data, .data, .widerDeep], laidTests := true, laidLooks := .later }
def PlanBestCardSaid : Prop := Claim7.holds Tryz.pinned (.plain (OpenSpec.ofChange planBestSpec)) planBestCard

/-- THE TIED CARD OF 'versinelaw09.PlanChecks'. -/
def planChecksCard : Claim7 := { stood := { row := planChecksRow, standIns := [], harness := (true, "a6ccf485f3cb573a35f2854c4f78e4fd62b050637ec28d37cb236cb31050d01a"), looks := false }, kinds := [], alts := [], laidByText := true, laidKinds := [.data, .data, .data, .widerDeep], laidTests := true, laidLooks := .later }
def PlanChecksCardSaid : Prop := Claim7.holds Tryz.pinned (.plain (OpenSpec.ofChange planChecksSpec)) planChecksCard

/-- THE TIED CARD OF 'versinelaw09.PlanBounds'. -/
def planBoundsCard : Claim7 := { stood := { row := planBoundsRow, standIns := [], harness := (true, "a6ccf485f3cb573a35f2854c4f78e4fd62b050637ec28d37cb236cb31050d01a"), looks := false }, kinds := [], alts := [], laidByText := true, laidKinds := [.data, .data, .data, .widerDeep], laidTests := true, laidLooks := .later }
def PlanBoundsCardSaid : Prop := Claim7.holds Tryz.pinned (.plain (OpenSpec.ofChange planBoundsSpec)) planBoundsCard

/-- THE TIED CARD OF 'versinelaw09.PlanDesigns'. -/
def planDesignsCard : Claim7 := { stood := { row := planDesignsRow, standIns := [], harness := (true, "a6ccf485f3cb573a35f2854c4f78e4fd62b050637ec28d37cb236cb31050d01a"), looks := false }, kinds := [], alts := [], laidByText := true, laidKinds := [.data, .data, .data, .widerDeep], laidTests := true, laidLooks := .later }
def PlanDesignsCardSaid : Prop := Claim7.holds Tryz.pinned (.plain (OpenSpec.ofChange planDesignsSpec)) planDesignsCard

/-- THE TIED CARD OF 'versinelaw09.PlanTonnes'. -/
def planTonnesCard : Claim7 := { stood := { row := planTonnesRow, standIns := [], harness := (true, "a6ccf485f3cb573a35f2854c4f78e4fd62b050637ec28d37cb236cb31050d01a"), looks := false }, kinds := [], alts := [], laidByText := true, laidKinds := [.data, .data, .data, .widerDeep], laidTests := true, laidLooks := .later }
def PlanTonnesCardSaid : Prop := Claim7.holds Tryz.pinned (.plain (OpenSpec.ofChange planTonnesSpec)) planTonnesCard

/-- THE TIED CARD OF 'versinelaw09.PlanRails'. -/
def planRailsCard : Claim7 := { stood := { row := planRailsRow, standIns := [], harness := (true, "a6ccf485f3cb573a35f2854c4f78e4fd62b050637ec28d37cb236cb31050d01a"), looks := false }, kinds := [], alts := [], laidByText := true, laidKinds := [.data, .data, .data, .widerDeep], laidTests := true, laidLooks := .later }
def PlanRailsCardSaid : Prop := Claim7.holds Tryz.pinned (.plain (OpenSpec.ofChange planRailsSpec)) planRailsCard

/-- THE TIED CARD OF 'versinelaw09.PlanPulls'. -/
def planPullsCard : Claim7 := { stood := { row := planPullsRow, standIns := [], harness := (true, "a6ccf485f3cb573a35f2854c4f78e4fd62b050637ec28d37cb236cb31050d01a"), looks := false }, kinds := [], alts := [], laidByText := true, laidKinds := [.data, .data, .data, .widerDeep], laidTests := true, laidLooks := .later }
def PlanPullsCardSaid : Prop := Claim7.holds Tryz.pinned (.plain (OpenSpec.ofChange planPullsSpec)) planPullsCard

/-- THE TIED CARD OF 'versinelaw09.PlanChains'. -/
def planChainsCard : Claim7 := { stood := { row := planChainsRow, standIns := [], harness := (true, "a6ccf485f3cb573a35f2854c4f78e4fd62b050637ec28d37cb236cb31050d01a"), looks := false }, kinds := [], alts := [], laidByText := true, laidKinds := [.data, .data, .data, .widerDeep], laidTests := true, laidLooks := .later }
def PlanChainsCardSaid : Prop := Claim7.holds Tryz.pinned (.plain (OpenSpec.ofChange planChainsSpec)) planChainsCard

/-- THE TIED CARD OF 'versinelaw09.PlanBounded'. -/
def planBoundedCard : Claim7 := { stood := { row := planBoundedRow, standIns := [], harness := (true, "a6ccf485f3cb573a35f2854c4f78e4fd62b050637ec28d37cb236cb31050d01a"), looks := false }, kinds := [], alts := [], laidByText := true, laidKinds := [.data, .data, .data, .widerDeep], laidTests := true, laidLooks := .later }
def PlanBoundedCardSaid : Prop := Claim7.holds Tryz.pinned (.plain (OpenSpec.ofChange planBoundedSpec)) planBoundedCard

/-- THE TIED CARD OF 'versinelaw09.PlanSmooth'. -/
def planSmoothCard : Claim7 := { stood := { row := planSmoothRow, standIns := [], harness := (true, "a6ccf485f3cb573a35f2854c4f78e4fd62b050637ec28d37cb236cb31050d01a"), looks := false }, kinds := [], alts := [], laidByText := true, laidKinds := [.data, .data, .data, .widerDeep], laidTests := true, laidLooks := .later }
def PlanSmoothCardSaid : Prop := Claim7.holds Tryz.pinned (.plain (OpenSpec.ofChange planSmoothSpec)) planSmoothCard

/-- THE TIED CARD OF 'versinelaw09.PlanWarm'. -/
def planWarmCard : Claim7 := { stood := { row := planWarmRow, standIns := [], harness := (true, "a6ccf485f3cb573a35f2854c4f78e4fd62b050637ec28d37cb236cb31050d01a"), looks := false }, kinds := [], alts := [], laidByText := true, laidKinds := [.data, .data, .data, .widerDeep], laidTests := true, laidLooks := .later }
def PlanWarmCardSaid : Prop := Claim7.holds Tryz.pinned (.plain (OpenSpec.ofChange planWarmSpec)) planWarmCard

/-- THE TIED CARD OF 'versinelaw09.PlanSequences'. -/
def planSequencesCard : Claim7 := { stood := { row := planSequencesRow, standIns := [], harness := (true, "a6ccf485f3cb573a35f2854c4f78e4fd62b050637ec28d37cb236cb31050d01a"), looks := false }, kinds := [], alts := [], laidByText := true, laidKinds := [.data, .data, .data, .widerDeep], laidTests := true, laidLooks := .later }
def PlanSequencesCardSaid : Prop := Claim7.holds Tryz.pinned (.plain (OpenSpec.ofChange planSequencesSpec)) planSequencesCard

/-- THE TIED CARD OF 'versinelaw09.PlanDays'. -/
def planDaysCard : Claim7 := { stood := { row := planDaysRow, standIns := [], harness := (true, "a6ccf485f3cb573a35f2854c4f78e4fd62b050637ec28d37cb236cb31050d01a"), looks := false }, kinds := [], alts := [], laidByText := true, laidKinds := [.data, .data, .data, .widerDeep], laidTests := true, laidLooks := .later }
def PlanDaysCardSaid : Prop := Claim7.holds Tryz.pinned (.plain (OpenSpec.ofChange planDaysSpec)) planDaysCard

/-- THE SECOND FORM's CARD OF 'versinelaw09.PlanBest'. -/
def planBestUptoCard : Claim7 := { stood := { row := planBestUptoRow, standIns := [], harness := (true, "a6ccf485f3cb573a35f2854c4f78e4fd62b050637ec28d37cb236cb31050d01a"), looks := false }, kinds := [], alts := [], laidByText := true, laidKinds := [.data, .data, .data, .widerDeep], laidTests := true, laidLooks := .later }
def PlanBestUptoCardSaid : Prop := Claim7.holds Tryz.pinned (.plain (OpenSpec.upto planBestSpec)) planBestUptoCard

/-- THE SECOND FORM's CARD OF 'versinelaw09.PlanChecks'. -/
def planChecksUptoCard : Claim7 := { stood := { row := planChecksUptoRow, standIns := [], harness := (true, "a6ccf485f3cb573a35f2854c4f78e4fd62b050637ec28d37cb236cb31050d01a"), looks := false }, kinds := [], alts := [], laidByText := true, laidKinds := [.data, .data, .data, .widerDeep], laidTests := true, laidLooks := .later }
def PlanChecksUptoCardSaid : Prop := Claim7.holds Tryz.pinned (.plain (OpenSpec.upto planChecksSpec)) planChecksUptoCard

/-- THE SECOND FORM's CARD OF 'versinelaw09.PlanBounds'. -/
def planBoundsUptoCard : Claim7 := { stood := { row := planBoundsUptoRow, standIns := [], harness := (true, "a6ccf485f3cb573a35f2854c4f78e4fd62b050637ec28d37cb236cb31050d01a"), looks := false }, kinds := [], alts := [], laidByText := true, laidKinds := [.data, .data, .data, .widerDeep], laidTests := true, laidLooks := .later }
def PlanBoundsUptoCardSaid : Prop := Claim7.holds Tryz.pinned (.plain (OpenSpec.upto planBoundsSpec)) planBoundsUptoCard

/-- THE SECOND FORM's CARD OF 'versinelaw09.PlanDesigns'. -/
def planDesignsUptoCard : Claim7 := { stood := { row := planDesignsUptoRow, standIns := [], harness := (true, "a6ccf485f3cb573a35f2854c4f78e4fd62b050637ec28d37cb236cb31050d01a"), looks := false }, kinds := [], alts := [], laidByText := true, laidKinds := [.data, .data, .data, .widerDeep], laidTests := true, laidLooks := .later }
def PlanDesignsUptoCardSaid : Prop := Claim7.holds Tryz.pinned (.plain (OpenSpec.upto planDesignsSpec)) planDesignsUptoCard

/-- THE SECOND FORM's CARD OF 'versinelaw09.PlanTonnes'. -/
def planTonnesUptoCard : Claim7 := { stood := { row := planTonnesUptoRow, standIns := [], harness := (true, "a6ccf485f3cb573a35f2854c4f78e4fd62b050637ec28d37cb236cb31050d01a"), looks := false }, kinds := [], alts := [], laidByText := true, laidKinds := [.data, .data, .data, .widerDeep], laidTests := true, laidLooks := .later }
def PlanTonnesUptoCardSaid : Prop := Claim7.holds Tryz.pinned (.plain (OpenSpec.upto planTonnesSpec)) planTonnesUptoCard

/-- THE SECOND FORM's CARD OF 'versinelaw09.PlanRails'. -/
def planRailsUptoCard : Claim7 := { stood := { row := planRailsUptoRow, standIns := [], harness := (true, "a6ccf485f3cb573a35f2854c4f78e4fd62b050637ec28d37cb236cb31050d01a"), looks := false }, kinds := [], alts := [], laidByText := true, laidKinds := [.data, .data, .data, .widerDeep], laidTests := true, laidLooks := .later }
def PlanRailsUptoCardSaid : Prop := Claim7.holds Tryz.pinned (.plain (OpenSpec.upto planRailsSpec)) planRailsUptoCard

/-- THE SECOND FORM's CARD OF 'versinelaw09.PlanPulls'. -/
def planPullsUptoCard : Claim7 := { stood := { row := planPullsUptoRow, standIns := [], harness := (true, "a6ccf485f3cb573a35f2854c4f78e4fd62b050637ec28d37cb236cb31050d01a"), looks := false }, kinds := [], alts := [], laidByText := true, laidKinds := [.data, .data, .data, .widerDeep], laidTests := true, laidLooks := .later }
def PlanPullsUptoCardSaid : Prop := Claim7.holds Tryz.pinned (.plain (OpenSpec.upto planPullsSpec)) planPullsUptoCard

/-- THE SECOND FORM's CARD OF 'versinelaw09.PlanChains'. -/
def planChainsUptoCard : Claim7 := { stood := { row := planChainsUptoRow, standIns := [], harness := (true, "a6ccf485f3cb573a35f2854c4f78e4fd62b050637ec28d37cb236cb31050d01a"), looks := false }, kinds := [], alts := [], laidByText := true, laidKinds := [.data, .data, .data, .widerDeep], laidTests := true, laidLooks := .later }
def PlanChainsUptoCardSaid : Prop := Claim7.holds Tryz.pinned (.plain (OpenSpec.upto planChainsSpec)) planChainsUptoCard

/-- THE SECOND FORM's CARD OF 'versinelaw09.PlanBounded'. -/
def planBoundedUptoCard : Claim7 := { stood := { row := planBoundedUptoRow, standIns := [], harness := (true, "a6ccf485f3cb573a35f2854c4f78e4fd62b050637ec28d37cb236cb31050d01a"), looks := false }, kinds := [], alts := [], laidByText := true, laidKinds := [.data, .data, .data, .widerDeep], laidTests := true, laidLooks := .later }
def PlanBoundedUptoCardSaid : Prop := Claim7.holds Tryz.pinned (.plain (OpenSpec.upto planBoundedSpec)) planBoundedUptoCard

/-- THE SECOND FORM's CARD OF 'versinelaw09.PlanSmooth'. -/
def planSmoothUptoCard : Claim7 := { stood := { row := planSmoothUptoRow, standIns := [], harness := (true, "a6ccf485f3cb573a35f2854c4f78e4fd62b050637ec28d37cb236cb31050d01a"), looks := false }, kinds := [], alts := [], laidByText := true, laidKinds := [.data, .data, .data, .widerDeep], laidTests := true, laidLooks := .later }
def PlanSmoothUptoCardSaid : Prop := Claim7.holds Tryz.pinned (.plain (OpenSpec.upto planSmoothSpec)) planSmoothUptoCard

/-- THE SECOND FORM's CARD OF 'versinelaw09.PlanWarm'. -/
def planWarmUptoCard : Claim7 := { stood := { row := planWarmUptoRow, standIns := [], harness := (true, "a6ccf485f3cb573a35f2854c4f78e4fd62b050637ec28d37cb236cb31050d01a"), looks := false }, kinds := [], alts := [], laidByText := true, laidKinds := [.data, .data, .data, .widerDeep], laidTests := true, laidLooks := .later }
def PlanWarmUptoCardSaid : Prop := Claim7.holds Tryz.pinned (.plain (OpenSpec.upto planWarmSpec)) planWarmUptoCard

/-- THE SECOND FORM's CARD OF 'versinelaw09.PlanSequences'. -/
def planSequencesUptoCard : Claim7 := { stood := { row := planSequencesUptoRow, standIns := [], harness := (true, "a6ccf485f3cb573a35f2854c4f78e4fd62b050637ec28d37cb236cb31050d01a"), looks := false }, kinds := [], alts := [], laidByText := true, laidKinds := [.data, .data, .data, .widerDeep], laidTests := true, laidLooks := .later }
def PlanSequencesUptoCardSaid : Prop := Claim7.holds Tryz.pinned (.plain (OpenSpec.upto planSequencesSpec)) planSequencesUptoCard

/-- THE SECOND FORM's CARD OF 'versinelaw09.PlanDays'. -/
def planDaysUptoCard : Claim7 := { stood := { row := planDaysUptoRow, standIns := [], harness := (true, "a6ccf485f3cb573a35f2854c4f78e4fd62b050637ec28d37cb236cb31050d01a"), looks := false }, kinds := [], alts := [], laidByText := true, laidKinds := [.data, .data, .data, .widerDeep], laidTests := true, laidLooks := .later }
def PlanDaysUptoCardSaid : Prop := Claim7.holds Tryz.pinned (.plain (OpenSpec.upto planDaysSpec)) planDaysUptoCard
end Rows
end Go.Proofs.YtccddhoeampdjaaGreatDoor
