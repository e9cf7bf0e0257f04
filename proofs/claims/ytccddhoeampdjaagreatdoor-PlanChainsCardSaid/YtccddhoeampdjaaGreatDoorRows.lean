/-
  NARROWER THAN 'FOR EVERY INPUT', by the rows' own cells (each row's printed sentence says how): PlanBest: laid · PlanChecks: laid · PlanBounds: laid · PlanDesigns: laid · PlanTonnes: laid · PlanRails: laid · PlanPulls: laid · PlanChains: laid · PlanBounded: laid · PlanSmooth: laid · PlanWarm: laid · PlanSequences: laid · PlanDays: laid.
  DERIVED. THE GIVEN ROWS OF THIS SEAT. 13 by the template 'for every input the law returns true; each argument reads behind the call as it read before'; 0 by the template 'total and deterministic' (their statements: YtccddhoeampdjaaGreatDoorTotals.lean).
  GIVEN WITH THE SEED: the statements are not yours to turn. If you find one false, say at which input.
  Laid BY PROGRAM, IN A SANDBOX (cutbox-rows.mjs): the forced cells as the released guide's own fill.sh prints them over the translation 0c03f00d8b13e10d… (all of the seat's roots in one cut). By AI agents, Wed Nov 11 2026. No macro, syntax, notation, axiom, sorry.
-/
import Derived.Test.YtccddhoeampdjaaGreatDoorChecked
import GoSem.Claim
import GoSem.ClaimJoined
import GoSem.ClaimMapViews
import Derived.JoinedTies
import Derived.KernelRfl
namespace Go.Proofs.YtccddhoeampdjaaGreatDoor
/- THE CELL 'sum', in the pinned program and in every row, IS THE sha256 OF THE DUMP (.gsa) THAT YtccddhoeampdjaaGreatDoorProg.lean LOADS. Nothing in Lean hashes anything: it is a label: what it is worth is what the hold of that sum in a sandbox is worth. -/
noncomputable def Tryz.pinned : Pinned := { name := "ytccddhoeampdjaagreatdoor", sum := "0c03f00d8b13e10df52be9df4c59d25e95183edf4c2959792272781ef2923217", checked := Tryz.checked }
namespace Rows
def none {H : Type} : Left H := { results := [], args := [] }

/- WHAT THE LISTED PACKAGE-LEVEL VARIABLES READ AS WHEN THE CALL BEGINS. Each datum BY PROGRAM (the guide's laid-datum.mjs) off the statement by which the dump's own 'gosem.cut.vars' lays the variable. In a bare row this is a premise. The card (YtccddhoeampdjaaGreatDoorCards.lean) ties it to the program's text. -/
def laid_math_bits_deBruijn32tab {H : Type} : DataW H := .agg [.lit (.int .u8 0), .lit (.int .u8 1), .lit (.int .u8 28), .lit (.int .u8 2), .lit (.int .u8 29), .lit (.int .u8 14), .lit (.int .u8 24), .lit (.int .u8 3), .lit (.int .u8 30), .lit (.int .u8 22), .lit (.int .u8 20), .lit (.int .u8 15), .lit (.int .u8 25), .lit (.int .u8 17), .lit (.int .u8 4), .lit (.int .u8 8), .lit (.int .u8 31), .lit (.int .u8 27), .lit (.int .u8 13), .lit (.int .u8 23), .lit (.int .u8 21), .lit (.int .u8 19), .lit (.int .u8 16), .lit (.int .u8 7), .lit (.int .u8 26), .lit (.int .u8 12), .lit (.int .u8 18), .lit (.int .u8 6), .lit (.int .u8 11), .lit (.int .u8 5), .lit (.int .u8 10), .lit (.int .u8 9)]
def laid_math_bits_deBruijn64tab {H : Type} : DataW H := .agg [.lit (.int .u8 0), .lit (.int .u8 1), .lit (.int .u8 56), .lit (.int .u8 2), .lit (.int .u8 57), .lit (.int .u8 49), .lit (.int .u8 28), .lit (.int .u8 3), .lit (.int .u8 61), .lit (.int .u8 58), .lit (.int .u8 42), .lit (.int .u8 50), .lit (.int .u8 38), .lit (.int .u8 29), .lit (.int .u8 17), .lit (.int .u8 4), .lit (.int .u8 62), .lit (.int .u8 47), .lit (.int .u8 59), .lit (.int .u8 36), .lit (.int .u8 45), .lit (.int .u8 43), .lit (.int .u8 51), .lit (.int .u8 22), .lit (.int .u8 53), .lit (.int .u8 39), .lit (.int .u8 33), .lit (.int .u8 30), .lit (.int .u8 24), .lit (.int .u8 18), .lit (.int .u8 12), .lit (.int .u8 5), .lit (.int .u8 63), .lit (.int .u8 55), .lit (.int .u8 48), .lit (.int .u8 27), .lit (.int .u8 60), .lit (.int .u8 41), .lit (.int .u8 37), .lit (.int .u8 16), .lit (.int .u8 46), .lit (.int .u8 35), .lit (.int .u8 44), .lit (.int .u8 21), .lit (.int .u8 52), .lit (.int .u8 32), .lit (.int .u8 23), .lit (.int .u8 11), .lit (.int .u8 54), .lit (.int .u8 26), .lit (.int .u8 40), .lit (.int .u8 15), .lit (.int .u8 34), .lit (.int .u8 20), .lit (.int .u8 31), .lit (.int .u8 10), .lit (.int .u8 25), .lit (.int .u8 14), .lit (.int .u8 19), .lit (.int .u8 9), .lit (.int .u8 13), .lit (.int .u8 8), .lit (.int .u8 7), .lit (.int .u8 6)]
def laid_internal_strconv_uint64pow10 {H : Type} : DataW H := .agg [.lit (.int .u64 1), .lit (.int .u64 10), .lit (.int .u64 100), .lit (.int .u64 1000), .lit (.int .u64 10000), .lit (.int .u64 100000), .lit (.int .u64 1000000), .lit (.int .u64 10000000), .lit (.int .u64 100000000), .lit (.int .u64 1000000000), .lit (.int .u64 10000000000), .lit (.int .u64 100000000000), .lit (.int .u64 1000000000000), .lit (.int .u64 10000000000000), .lit (.int .u64 100000000000000), .lit (.int .u64 1000000000000000), .lit (.int .u64 10000000000000000), .lit (.int .u64 100000000000000000), .lit (.int .u64 1000000000000000000), .lit (.int .u64 10000000000000000000)]
def laid_versine_plan_jobKinds {H : Type} : DataW H := .agg [.lit (.string [116, 97, 109, 112]), .lit (.string [103, 114, 105, 110, 100]), .lit (.string [119, 101, 108, 100])]

/-- 'versinelaw09.PlanBest': WHATEVER THE INPUT: true; the input reads as it did. -/
def planBestSpec : ChangeSpec := { name := "planBest", fn := fun _ => fun
  | [d] => { results := [.lit (.bool true)], args := [d] }
  | _ => none }
def planBestRow : OpenClaim := { program := "ytccddhoeampdjaagreatdoor", sum := "0c03f00d8b13e10df52be9df4c59d25e95183edf4c2959792272781ef2923217", func := "versine/versinelaw09.PlanBest", spec := "planBest", inPlace := ["internal/abi.NoEscape", "internal/bytealg.MakeNoZero"], unfollowed := true, recurses := true, named := ["versine/plan.jobKinds", "internal/strconv.uint64pow10", "math/bits.deBruijn32tab", "math/bits.deBruijn64tab"], apart := false, laid := [("math/bits.deBruijn32tab", laid_math_bits_deBruijn32tab), ("math/bits.deBruijn64tab", laid_math_bits_deBruijn64tab), ("internal/strconv.uint64pow10", laid_internal_strconv_uint64pow10), ("versine/plan.jobKinds", laid_versine_plan_jobKinds)] }
def PlanBestSaid : Prop := planBestRow.holds Tryz.pinned (OpenSpec.ofChange planBestSpec)

/-- ITS FALSE NEIGHBOUR: 'it returns false'. Refute it at one input. -/
def planBestWrong : ChangeSpec := { name := "planBest", fn := fun _ => fun
  | [d] => { results := [.lit (.bool false)], args := [d] }
  | _ => none }
def PlanBestWrongFalsely : Prop := planBestRow.holds Tryz.pinned (OpenSpec.ofChange planBestWrong)

/-- 'versinelaw09.PlanChecks': WHATEVER THE INPUT: true; the input reads as it did. -/
def planChecksSpec : ChangeSpec := { name := "planChecks", fn := fun _ => fun
  | [d1, d2] => { results := [.lit (.bool true)], args := [d1, d2] }
  | _ => none }
def planChecksRow : OpenClaim := { program := "ytccddhoeampdjaagreatdoor", sum := "0c03f00d8b13e10df52be9df4c59d25e95183edf4c2959792272781ef2923217", func := "versine/versinelaw09.PlanChecks", spec := "planChecks", inPlace := ["internal/abi.NoEscape", "internal/bytealg.MakeNoZero"], unfollowed := true, recurses := true, named := ["versine/plan.jobKinds", "internal/strconv.uint64pow10", "math/bits.deBruijn32tab", "math/bits.deBruijn64tab"], apart := false, laid := [("math/bits.deBruijn32tab", laid_math_bits_deBruijn32tab), ("math/bits.deBruijn64tab", laid_math_bits_deBruijn64tab), ("internal/strconv.uint64pow10", laid_internal_strconv_uint64pow10), ("versine/plan.jobKinds", laid_versine_plan_jobKinds)] }
def PlanChecksSaid : Prop := planChecksRow.holds Tryz.pinned (OpenSpec.ofChange planChecksSpec)

/-- ITS FALSE NEIGHBOUR: 'it returns false'. Refute it at one input. -/
def planChecksWrong : ChangeSpec := { name := "planChecks", fn := fun _ => fun
  | [d1, d2] => { results := [.lit (.bool false)], args := [d1, d2] }
  | _ => none }
def PlanChecksWrongFalsely : Prop := planChecksRow.holds Tryz.pinned (OpenSpec.ofChange planChecksWrong)

/-- 'versinelaw09.PlanBounds': WHATEVER THE INPUT: true; the input reads as it did. -/
def planBoundsSpec : ChangeSpec := { name := "planBounds", fn := fun _ => fun
  | [d1, d2] => { results := [.lit (.bool true)], args := [d1, d2] }
  | _ => none }
def planBoundsRow : OpenClaim := { program := "ytccddhoeampdjaagreatdoor", sum := "0c03f00d8b13e10df52be9df4c59d25e95183edf4c2959792272781ef2923217", func := "versine/versinelaw09.PlanBounds", spec := "planBounds", inPlace := ["internal/abi.NoEscape", "internal/bytealg.MakeNoZero"], unfollowed := true, recurses := true, named := ["versine/plan.jobKinds", "internal/strconv.uint64pow10", "math/bits.deBruijn32tab", "math/bits.deBruijn64tab"], apart := false, laid := [("math/bits.deBruijn32tab", laid_math_bits_deBruijn32tab), ("math/bits.deBruijn64tab", laid_math_bits_deBruijn64tab), ("internal/strconv.uint64pow10", laid_internal_strconv_uint64pow10), ("versine/plan.jobKinds", laid_versine_plan_jobKinds)] }
def PlanBoundsSaid : Prop := planBoundsRow.holds Tryz.pinned (OpenSpec.ofChange planBoundsSpec)

/-- ITS FALSE NEIGHBOUR: 'it returns false'. Refute it at one input. -/
def planBoundsWrong : ChangeSpec := { name := "planBounds", fn := fun _ => fun
  | [d1, d2] => { results := [.lit (.bool false)], args := [d1, d2] }
  | _ => none }
def PlanBoundsWrongFalsely : Prop := planBoundsRow.holds Tryz.pinned (OpenSpec.ofChange planBoundsWrong)

/-- 'versinelaw09.PlanDesigns': WHATEVER THE INPUT: true; the input reads as it did. -/
def planDesignsSpec : ChangeSpec := { name := "planDesigns", fn := fun _ => fun
  | [d1, d2, d3] => { results := [.lit (.bool true)], args := [d1, d2, d3] }
  | _ => none }
def planDesignsRow : OpenClaim := { program := "ytccddhoeampdjaagreatdoor", sum := "0c03f00d8b13e10df52be9df4c59d25e95183edf4c2959792272781ef2923217", func := "versine/versinelaw09.PlanDesigns", spec := "planDesigns", inPlace := ["internal/abi.NoEscape", "internal/bytealg.MakeNoZero"], unfollowed := true, recurses := true, named := ["versine/plan.jobKinds", "internal/strconv.uint64pow10", "math/bits.deBruijn32tab", "math/bits.deBruijn64tab"], apart := false, laid := [("math/bits.deBruijn32tab", laid_math_bits_deBruijn32tab), ("math/bits.deBruijn64tab", laid_math_bits_deBruijn64tab), ("internal/strconv.uint64pow10", laid_internal_strconv_uint64pow10), ("versine/plan.jobKinds", laid_versine_plan_jobKinds)] }
def PlanDesignsSaid : Prop := planDesignsRow.holds Tryz.pinned (OpenSpec.ofChange planDesignsSpec)

/-- ITS FALSE NEIGHBOUR: 'it returns false'. Refute it at one input. -/
def planDesignsWrong : ChangeSpec := { name := "planDesigns", fn := fun _ => fun
  | [d1, d2, d3] => { results := [.lit (.bool false)], args := [d1, d2, d3] }
  | _ => none }
def PlanDesignsWrongFalsely : Prop := planDesignsRow.holds Tryz.pinned (OpenSpec.ofChange planDesignsWrong)

/-- 'versinelaw09.PlanTonnes': WHATEVER THE INPUT: true; the input reads as it did. -/
def planTonnesSpec : ChangeSpec := { name := "planTonnes", fn := fun _ => fun
  | [d1, d2] => { results := [.lit (.bool true)], args := [d1, d2] }
  | _ => none }
def planTonnesRow : OpenClaim := { program := "ytccddhoeampdjaagreatdoor", sum := "0c03f00d8b13e10df52be9df4c59d25e95183edf4c2959792272781ef2923217", func := "versine/versinelaw09.PlanTonnes", spec := "planTonnes", inPlace := ["internal/abi.NoEscape", "internal/bytealg.MakeNoZero"], unfollowed := true, recurses := true, named := ["versine/plan.jobKinds", "internal/strconv.uint64pow10", "math/bits.deBruijn32tab", "math/bits.deBruijn64tab"], apart := false, laid := [("math/bits.deBruijn32tab", laid_math_bits_deBruijn32tab), ("math/bits.deBruijn64tab", laid_math_bits_deBruijn64tab), ("internal/strconv.uint64pow10", laid_internal_strconv_uint64pow10), ("versine/plan.jobKinds", laid_versine_plan_jobKinds)] }
def PlanTonnesSaid : Prop := planTonnesRow.holds Tryz.pinned (OpenSpec.ofChange planTonnesSpec)

/-- ITS FALSE NEIGHBOUR: 'it returns false'. Refute it at one input. -/
def planTonnesWrong : ChangeSpec := { name := "planTonnes", fn := fun _ => fun
  | [d1, d2] => { results := [.lit (.bool false)], args := [d1, d2] }
  | _ => none }
def PlanTonnesWrongFalsely : Prop := planTonnesRow.holds Tryz.pinned (OpenSpec.ofChange planTonnesWrong)

/-- 'versinelaw09.PlanRails': WHATEVER THE INPUT: true; the input reads as it did. -/
def planRailsSpec : ChangeSpec := { name := "planRails", fn := fun _ => fun
  | [d1, d2, d3] => { results := [.lit (.bool true)], args := [d1, d2, d3] }
  | _ => none }
def planRailsRow : OpenClaim := { program := "ytccddhoeampdjaagreatdoor", sum := "0c03f00d8b13e10df52be9df4c59d25e95183edf4c2959792272781ef2923217", func := "versine/versinelaw09.PlanRails", spec := "planRails", inPlace := ["internal/abi.NoEscape", "internal/bytealg.MakeNoZero"], unfollowed := true, recurses := true, named := ["versine/plan.jobKinds", "internal/strconv.uint64pow10", "math/bits.deBruijn32tab", "math/bits.deBruijn64tab"], apart := false, laid := [("math/bits.deBruijn32tab", laid_math_bits_deBruijn32tab), ("math/bits.deBruijn64tab", laid_math_bits_deBruijn64tab), ("internal/strconv.uint64pow10", laid_internal_strconv_uint64pow10), ("versine/plan.jobKinds", laid_versine_plan_jobKinds)] }
def PlanRailsSaid : Prop := planRailsRow.holds Tryz.pinned (OpenSpec.ofChange planRailsSpec)

/-- ITS FALSE NEIGHBOUR: 'it returns false'. Refute it at one input. -/
def planRailsWrong : ChangeSpec := { name := "planRails", fn := fun _ => fun
  | [d1, d2, d3] => { results := [.lit (.bool false)], args := [d1, d2, d3] }
  | _ => none }
def PlanRailsWrongFalsely : Prop := planRailsRow.holds Tryz.pinned (OpenSpec.ofChange planRailsWrong)

/-- 'versinelaw09.PlanPulls': WHATEVER THE INPUT: true; the input reads as it did. -/
def planPullsSpec : ChangeSpec := { name := "planPulls", fn := fun _ => fun
  | [d1, d2, d3] => { results := [.lit (.bool true)], args := [d1, d2, d3] }
  | _ => none }
def planPullsRow : OpenClaim := { program := "ytccddhoeampdjaagreatdoor", sum := "0c03f00d8b13e10df52be9df4c59d25e95183edf4c2959792272781ef2923217", func := "versine/versinelaw09.PlanPulls", spec := "planPulls", inPlace := ["internal/abi.NoEscape", "internal/bytealg.MakeNoZero"], unfollowed := true, recurses := true, named := ["versine/plan.jobKinds", "internal/strconv.uint64pow10", "math/bits.deBruijn32tab", "math/bits.deBruijn64tab"], apart := false, laid := [("math/bits.deBruijn32tab", laid_math_bits_deBruijn32tab), ("math/bits.deBruijn64tab", laid_math_bits_deBruijn64tab), ("internal/strconv.uint64pow10", laid_internal_strconv_uint64pow10), ("versine/plan.jobKinds", laid_versine_plan_jobKinds)] }
def PlanPullsSaid : Prop := planPullsRow.holds Tryz.pinned (OpenSpec.ofChange planPullsSpec)

/-- ITS FALSE NEIGHBOUR: 'it returns false'. Refute it at one input. -/
def planPullsWrong : ChangeSpec := { name := "planPulls", fn := fun _ => fun
  | [d1, d2, d3] => { results := [.lit (.bool false)], args := [d1, d2, d3] }
  | _ => none }
def PlanPullsWrongFalsely : Prop := planPullsRow.holds Tryz.pinned (OpenSpec.ofChange planPullsWrong)

/-- 'versinelaw09.PlanChains': WHATEVER THE INPUT: true; the input reads as it did. -/
def planChainsSpec : ChangeSpec := { name := "planChains", fn := fun _ => fun
  | [d] => { results := [.lit (.bool true)], args := [d] }
  | _ => none }
def planChainsRow : OpenClaim := { program := "ytccddhoeampdjaagreatdoor", sum := "0c03f00d8b13e10df52be9df4c59d25e95183edf4c2959792272781ef2923217", func := "versine/versinelaw09.PlanChains", spec := "planChains", inPlace := ["internal/abi.NoEscape", "internal/bytealg.MakeNoZero"], unfollowed := true, recurses := true, named := ["versine/plan.jobKinds", "internal/strconv.uint64pow10", "math/bits.deBruijn32tab", "math/bits.deBruijn64tab"], apart := false, laid := [("math/bits.deBruijn32tab", laid_math_bits_deBruijn32tab), ("math/bits.deBruijn64tab", laid_math_bits_deBruijn64tab), ("internal/strconv.uint64pow10", laid_internal_strconv_uint64pow10), ("versine/plan.jobKinds", laid_versine_plan_jobKinds)] }
def PlanChainsSaid : Prop := planChainsRow.holds Tryz.pinned (OpenSpec.ofChange planChainsSpec)

/-- ITS FALSE NEIGHBOUR: 'it returns false'. Refute it at one input. -/
def planChainsWrong : ChangeSpec := { name := "planChains", fn := fun _ => fun
  | [d] => { results := [.lit (.bool false)], args := [d] }
  | _ => none }
def PlanChainsWrongFalsely : Prop := planChainsRow.holds Tryz.pinned (OpenSpec.ofChange planChainsWrong)

/-- 'versinelaw09.PlanBounded': WHATEVER THE INPUT: true; the input reads as it did. -/
def planBoundedSpec : ChangeSpec := { name := "planBounded", fn := fun _ => fun
  | [d1, d2, d3] => { results := [.lit (.bool true)], args := [d1, d2, d3] }
  | _ => none }
def planBoundedRow : OpenClaim := { program := "ytccddhoeampdjaagreatdoor", sum := "0c03f00d8b13e10df52be9df4c59d25e95183edf4c2959792272781ef2923217", func := "versine/versinelaw09.PlanBounded", spec := "planBounded", inPlace := ["internal/abi.NoEscape", "internal/bytealg.MakeNoZero"], unfollowed := true, recurses := true, named := ["versine/plan.jobKinds", "internal/strconv.uint64pow10", "math/bits.deBruijn32tab", "math/bits.deBruijn64tab"], apart := false, laid := [("math/bits.deBruijn32tab", laid_math_bits_deBruijn32tab), ("math/bits.deBruijn64tab", laid_math_bits_deBruijn64tab), ("internal/strconv.uint64pow10", laid_internal_strconv_uint64pow10), ("versine/plan.jobKinds", laid_versine_plan_jobKinds)] }
def PlanBoundedSaid : Prop := planBoundedRow.holds Tryz.pinned (OpenSpec.ofChange planBoundedSpec)

/-- ITS FALSE NEIGHBOUR: 'it returns false'. Refute it at one input. -/
def planBoundedWrong : ChangeSpec := { name := "planBounded", fn := fun _ => fun
  | [d1, d2, d3] => { results := [.lit (.bool false)], args := [d1, d2, d3] }
  | _ => none }
def PlanBoundedWrongFalsely : Prop := planBoundedRow.holds Tryz.pinned (OpenSpec.ofChange planBoundedWrong)

/-- 'versinelaw09.PlanSmooth': WHATEVER THE INPUT: true; the input reads as it did. -/
def planSmoothSpec : ChangeSpec := { name := "planSmooth", fn := fun _ => fun
  | [d1, d2, d3] => { results := [.lit (.bool true)], args := [d1, d2, d3] }
  | _ => none }
def planSmoothRow : OpenClaim := { program := "ytccddhoeampdjaagreatdoor", sum := "0c03f00d8b13e10df52be9df4c59d25e95183edf4c2959792272781ef2923217", func := "versine/versinelaw09.PlanSmooth", spec := "planSmooth", inPlace := ["internal/abi.NoEscape", "internal/bytealg.MakeNoZero"], unfollowed := true, recurses := true, named := ["versine/plan.jobKinds", "internal/strconv.uint64pow10", "math/bits.deBruijn32tab", "math/bits.deBruijn64tab"], apart := false, laid := [("math/bits.deBruijn32tab", laid_math_bits_deBruijn32tab), ("math/bits.deBruijn64tab", laid_math_bits_deBruijn64tab), ("internal/strconv.uint64pow10", laid_internal_strconv_uint64pow10), ("versine/plan.jobKinds", laid_versine_plan_jobKinds)] }
def PlanSmoothSaid : Prop := planSmoothRow.holds Tryz.pinned (OpenSpec.ofChange planSmoothSpec)

/-- ITS FALSE NEIGHBOUR: 'it returns false'. Refute it at one input. -/
def planSmoothWrong : ChangeSpec := { name := "planSmooth", fn := fun _ => fun
  | [d1, d2, d3] => { results := [.lit (.bool false)], args := [d1, d2, d3] }
  | _ => none }
def PlanSmoothWrongFalsely : Prop := planSmoothRow.holds Tryz.pinned (OpenSpec.ofChange planSmoothWrong)

/-- 'versinelaw09.PlanWarm': WHATEVER THE INPUT: true; the input reads as it did. -/
def planWarmSpec : ChangeSpec := { name := "planWarm", fn := fun _ => fun
  | [d1, d2, d3] => { results := [.lit (.bool true)], args := [d1, d2, d3] }
  | _ => none }
def planWarmRow : OpenClaim := { program := "ytccddhoeampdjaagreatdoor", sum := "0c03f00d8b13e10df52be9df4c59d25e95183edf4c2959792272781ef2923217", func := "versine/versinelaw09.PlanWarm", spec := "planWarm", inPlace := ["internal/abi.NoEscape", "internal/bytealg.MakeNoZero"], unfollowed := true, recurses := true, named := ["versine/plan.jobKinds", "internal/strconv.uint64pow10", "math/bits.deBruijn32tab", "math/bits.deBruijn64tab"], apart := false, laid := [("math/bits.deBruijn32tab", laid_math_bits_deBruijn32tab), ("math/bits.deBruijn64tab", laid_math_bits_deBruijn64tab), ("internal/strconv.uint64pow10", laid_internal_strconv_uint64pow10), ("versine/plan.jobKinds", laid_versine_plan_jobKinds)] }
def PlanWarmSaid : Prop := planWarmRow.holds Tryz.pinned (OpenSpec.ofChange planWarmSpec)

/-- ITS FALSE NEIGHBOUR: 'it returns false'. Refute it at one input. -/
def planWarmWrong : ChangeSpec := { name := "planWarm", fn := fun _ => fun
  | [d1, d2, d3] => { results := [.lit (.bool false)], args := [d1, d2, d3] }
  | _ => none }
def PlanWarmWrongFalsely : Prop := planWarmRow.holds Tryz.pinned (OpenSpec.ofChange planWarmWrong)

/-- 'versinelaw09.PlanSequences': WHATEVER THE INPUT: true; the input reads as it did. -/
def planSequencesSpec : ChangeSpec := { name := "planSequences", fn := fun _ => fun
  | [d1, d2] => { results := [.lit (.bool true)], args := [d1, d2] }
  | _ => none }
def planSequencesRow : OpenClaim := { program := "ytccddhoeampdjaagreatdoor", sum := "0c03f00d8b13e10df52be9df4c59d25e95183edf4c2959792272781ef2923217", func := "versine/versinelaw09.PlanSequences", spec := "planSequences", inPlace := ["internal/abi.NoEscape", "internal/bytealg.MakeNoZero"], unfollowed := true, recurses := true, named := ["versine/plan.jobKinds", "internal/strconv.uint64pow10", "math/bits.deBruijn32tab", "math/bits.deBruijn64tab"], apart := false, laid := [("math/bits.deBruijn32tab", laid_math_bits_deBruijn32tab), ("math/bits.deBruijn64tab", laid_math_bits_deBruijn64tab), ("internal/strconv.uint64pow10", laid_internal_strconv_uint64pow10), ("versine/plan.jobKinds", laid_versine_plan_jobKinds)] }
def PlanSequencesSaid : Prop := planSequencesRow.holds Tryz.pinned (OpenSpec.ofChange planSequencesSpec)

/-- ITS FALSE NEIGHBOUR: 'it returns false'. Refute it at one input. -/
def planSequencesWrong : ChangeSpec := { name := "planSequences", fn := fun _ => fun
  | [d1, d2] => { results := [.lit (.bool false)], args := [d1, d2] }
  | _ => none }
def PlanSequencesWrongFalsely : Prop := planSequencesRow.holds Tryz.pinned (OpenSpec.ofChange planSequencesWrong)

/-- 'versinelaw09.PlanDays': WHATEVER THE INPUT: true; the input reads as it did. -/
def planDaysSpec : ChangeSpec := { name := "planDays", fn := fun _ => fun
  | [d1, d2, d3] => { results := [.lit (.bool true)], args := [d1, d2, d3] }
  | _ => none }
def planDaysRow : OpenClaim := { program := "ytccddhoeampdjaagreatdoor", sum := "0c03f00d8b13e10df52be9df4c59d25e95183edf4c2959792272781ef2923217", func := "versine/versinelaw09.PlanDays", spec := "planDays", inPlace := ["internal/abi.NoEscape", "internal/bytealg.MakeNoZero"], unfollowed := true, recurses := true, named := ["versine/plan.jobKinds", "internal/strconv.uint64pow10", "math/bits.deBruijn32tab", "math/bits.deBruijn64tab"], apart := false, laid := [("math/bits.deBruijn32tab", laid_math_bits_deBruijn32tab), ("math/bits.deBruijn64tab", laid_math_bits_deBruijn64tab), ("internal/strconv.uint64pow10", laid_internal_strconv_uint64pow10), ("versine/plan.jobKinds", laid_versine_plan_jobKinds)] }
def PlanDaysSaid : Prop := planDaysRow.holds Tryz.pinned (OpenSpec.ofChange planDaysSpec)

/-- ITS FALSE NEIGHBOUR: 'it returns false'. Refute it at one input. -/
def planDaysWrong : ChangeSpec := { name := "planDays", fn := fun _ => fun
  | [d1, d2, d3] => { results := [.lit (.bool false)], args := [d1, d2, d3] }
  | _ => none }
def PlanDaysWrongFalsely : Prop := planDaysRow.holds Tryz.pinned (OpenSpec.ofChange planDaysWrong)

/- THE SECOND FORM. 'bulk': how many values and letters a reading holds, each counted each time it is reached (what is shared counts as often as it is met; a slice's spare places count too). A statement '..UptoSaid' is the law's where the arguments, and the package variables that the reading takes, are together of bulk at most 1048576: NARROWER than '..Said'. Prove '..Said' where nothing that the law and all that it calls make is longer than what came in: it says more and counts as full. Else prove '..UptoSaid'. A law counts once. -/
mutual
def uptoBulk {H : Type} : DataW H → Nat
  | .lit (.string bytes) => bytes.length + 1
  | .lit _ => 1
  | .nil => 1
  | .ptr d => uptoBulk d + 1
  | .slice elems spare => uptoBulkAll elems + uptoBulkAll spare + 1
  | .agg parts => uptoBulkAll parts + 1
  | .iface _ d => uptoBulk d + 1
  | .map entries => uptoBulkEntries entries + 1
  | .held _ => 1
def uptoBulkAll {H : Type} : List (DataW H) → Nat
  | [] => 0
  | d :: r => uptoBulk d + uptoBulkAll r
def uptoBulkEntries {H : Type} : List (Lit × DataW H) → Nat
  | [] => 0
  | x :: r => uptoBulkEntry x + uptoBulkEntries r
def uptoBulkEntry {H : Type} : Lit × DataW H → Nat
  | (.string bytes, d) => bytes.length + uptoBulk d + 1
  | (_, d) => uptoBulk d + 1
 end
def uptoSmall : (H : Type) → List (DataW H) → Bool := fun _ ds => decide (uptoBulkAll ds ≤ 1048576)
def OpenSpec.upto (s : _root_.Go.ChangeSpec) : _root_.Go.OpenSpec := { _root_.Go.OpenSpec.ofChange s with cond := some uptoSmall }

/-- 'versinelaw09.PlanBest', WHERE WHAT IT READS IS OF BULK AT MOST 1048576: true; the input reads as it did. -/
def planBestUptoRow : OpenClaim := { program := "ytccddhoeampdjaagreatdoor", sum := "0c03f00d8b13e10df52be9df4c59d25e95183edf4c2959792272781ef2923217", func := "versine/versinelaw09.PlanBest", spec := "planBest", inPlace := ["internal/abi.NoEscape", "internal/bytealg.MakeNoZero"], unfollowed := true, recurses := true, named := ["versine/plan.jobKinds", "internal/strconv.uint64pow10", "math/bits.deBruijn32tab", "math/bits.deBruijn64tab"], apart := false, laid := [("math/bits.deBruijn32tab", laid_math_bits_deBruijn32tab), ("math/bits.deBruijn64tab", laid_math_bits_deBruijn64tab), ("internal/strconv.uint64pow10", laid_internal_strconv_uint64pow10), ("versine/plan.jobKinds", laid_versine_plan_jobKinds)], narrowed := true }
def PlanBestUptoSaid : Prop := planBestUptoRow.holds Tryz.pinned (OpenSpec.upto planBestSpec)

/-- 'versinelaw09.PlanChecks', WHERE WHAT IT READS IS OF BULK AT MOST 1048576: true; the input reads as it did. -/
def planChecksUptoRow : OpenClaim := { program := "ytccddhoeampdjaagreatdoor", sum := "0c03f00d8b13e10df52be9df4c59d25e95183edf4c2959792272781ef2923217", func := "versine/versinelaw09.PlanChecks", spec := "planChecks", inPlace := ["internal/abi.NoEscape", "internal/bytealg.MakeNoZero"], unfollowed := true, recurses := true, named := ["versine/plan.jobKinds", "internal/strconv.uint64pow10", "math/bits.deBruijn32tab", "math/bits.deBruijn64tab"], apart := false, laid := [("math/bits.deBruijn32tab", laid_math_bits_deBruijn32tab), ("math/bits.deBruijn64tab", laid_math_bits_deBruijn64tab), ("internal/strconv.uint64pow10", laid_internal_strconv_uint64pow10), ("versine/plan.jobKinds", laid_versine_plan_jobKinds)], narrowed := true }
def PlanChecksUptoSaid : Prop := planChecksUptoRow.holds Tryz.pinned (OpenSpec.upto planChecksSpec)

/-- 'versinelaw09.PlanBounds', WHERE WHAT IT READS IS OF BULK AT MOST 1048576: true; the input reads as it did. -/
def planBoundsUptoRow : OpenClaim := { program := "ytccddhoeampdjaagreatdoor", sum := "0c03f00d8b13e10df52be9df4c59d25e95183edf4c2959792272781ef2923217", func := "versine/versinelaw09.PlanBounds", spec := "planBounds", inPlace := ["internal/abi.NoEscape", "internal/bytealg.MakeNoZero"], unfollowed := true, recurses := true, named := ["versine/plan.jobKinds", "internal/strconv.uint64pow10", "math/bits.deBruijn32tab", "math/bits.deBruijn64tab"], apart := false, laid := [("math/bits.deBruijn32tab", laid_math_bits_deBruijn32tab), ("math/bits.deBruijn64tab", laid_math_bits_deBruijn64tab), ("internal/strconv.uint64pow10", laid_internal_strconv_uint64pow10), ("versine/plan.jobKinds", laid_versine_plan_jobKinds)], narrowed := true }
def PlanBoundsUptoSaid : Prop := planBoundsUptoRow.holds Tryz.pinned (OpenSpec.upto planBoundsSpec)

/-- 'versinelaw09.PlanDesigns', WHERE WHAT IT READS IS OF BULK AT MOST 1048576: true; the input reads as it did. -/
def planDesignsUptoRow : OpenClaim := { program := "ytccddhoeampdjaagreatdoor", sum := "0c03f00d8b13e10df52be9df4c59d25e95183edf4c2959792272781ef2923217", func := "versine/versinelaw09.PlanDesigns", spec := "planDesigns", inPlace := ["internal/abi.NoEscape", "internal/bytealg.MakeNoZero"], unfollowed := true, recurses := true, named := ["versine/plan.jobKinds", "internal/strconv.uint64pow10", "math/bits.deBruijn32tab", "math/bits.deBruijn64tab"], apart := false, laid := [("math/bits.deBruijn32tab", laid_math_bits_deBruijn32tab), ("math/bits.deBruijn64tab", laid_math_bits_deBruijn64tab), ("internal/strconv.uint64pow10", laid_internal_strconv_uint64pow10), ("versine/plan.jobKinds", laid_versine_plan_jobKinds)], narrowed := true }
def PlanDesignsUptoSaid : Prop := planDesignsUptoRow.holds Tryz.pinned (OpenSpec.upto planDesignsSpec)

/-- 'versinelaw09.PlanTonnes', WHERE WHAT IT READS IS OF BULK AT MOST 1048576: true; the input reads as it did. -/
def planTonnesUptoRow : OpenClaim := { program := "ytccddhoeampdjaagreatdoor", sum := "0c03f00d8b13e10df52be9df4c59d25e95183edf4c2959792272781ef2923217", func := "versine/versinelaw09.PlanTonnes", spec := "planTonnes", inPlace := ["internal/abi.NoEscape", "internal/bytealg.MakeNoZero"], unfollowed := true, recurses := true, named := ["versine/plan.jobKinds", "internal/strconv.uint64pow10", "math/bits.deBruijn32tab", "math/bits.deBruijn64tab"], apart := false, laid := [("math/bits.deBruijn32tab", laid_math_bits_deBruijn32tab), ("math/bits.deBruijn64tab", laid_math_bits_deBruijn64tab), ("internal/strconv.uint64pow10", laid_internal_strconv_uint64pow10), ("versine/plan.jobKinds", laid_versine_plan_jobKinds)], narrowed := true }
def PlanTonnesUptoSaid : Prop := planTonnesUptoRow.holds Tryz.pinned (OpenSpec.upto planTonnesSpec)

/-- 'versinelaw09.PlanRails', WHERE WHAT IT READS IS OF BULK AT MOST 1048576: true; the input reads as it did. -/
def planRailsUptoRow : OpenClaim := { program := "ytccddhoeampdjaagreatdoor", sum := "0c03f00d8b13e10df52be9df4c59d25e95183edf4c2959792272781ef2923217", func := "versine/versinelaw09.PlanRails", spec := "planRails", inPlace := ["internal/abi.NoEscape", "internal/bytealg.MakeNoZero"], unfollowed := true, recurses := true, named := ["versine/plan.jobKinds", "internal/strconv.uint64pow10", "math/bits.deBruijn32tab", "math/bits.deBruijn64tab"], apart := false, laid := [("math/bits.deBruijn32tab", laid_math_bits_deBruijn32tab), ("math/bits.deBruijn64tab", laid_math_bits_deBruijn64tab), ("internal/strconv.uint64pow10", laid_internal_strconv_uint64pow10), ("versine/plan.jobKinds", laid_versine_plan_jobKinds)], narrowed := true }
def PlanRailsUptoSaid : Prop := planRailsUptoRow.holds Tryz.pinned (OpenSpec.upto planRailsSpec)

/-- 'versinelaw09.PlanPulls', WHERE WHAT IT READS IS OF BULK AT MOST 1048576: true; the input reads as it did. -/
def planPullsUptoRow : OpenClaim := { program := "ytccddhoeampdjaagreatdoor", sum := "0c03f00d8b13e10df52be9df4c59d25e95183edf4c2959792272781ef2923217", func := "versine/versinelaw09.PlanPulls", spec := "planPulls", inPlace := ["internal/abi.NoEscape", "internal/bytealg.MakeNoZero"], unfollowed := true, recurses := true, named := ["versine/plan.jobKinds", "internal/strconv.uint64pow10", "math/bits.deBruijn32tab", "math/bits.deBruijn64tab"], apart := false, laid := [("math/bits.deBruijn32tab", laid_math_bits_deBruijn32tab), ("math/bits.deBruijn64tab", laid_math_bits_deBruijn64tab), ("internal/strconv.uint64pow10", laid_internal_strconv_uint64pow10), ("versine/plan.jobKinds", laid_versine_plan_jobKinds)], narrowed := true }
def PlanPullsUptoSaid : Prop := planPullsUptoRow.holds Tryz.pinned (OpenSpec.upto planPullsSpec)

/-- 'versinelaw09.PlanChains', WHERE WHAT IT READS IS OF BULK AT MOST 1048576: true; the input reads as it did. -/
def planChainsUptoRow : OpenClaim := { program := "ytccddhoeampdjaagreatdoor", sum := "0c03f00d8b13e10df52be9df4c59d25e95183edf4c2959792272781ef2923217", func := "versine/versinelaw09.PlanChains", spec := "planChains", inPlace := ["internal/abi.NoEscape", "internal/bytealg.MakeNoZero"], unfollowed := true, recurses := true, named := ["versine/plan.jobKinds", "internal/strconv.uint64pow10", "math/bits.deBruijn32tab", "math/bits.deBruijn64tab"], apart := false, laid := [("math/bits.deBruijn32tab", laid_math_bits_deBruijn32tab), ("math/bits.deBruijn64tab", laid_math_bits_deBruijn64tab), ("internal/strconv.uint64pow10", laid_internal_strconv_uint64pow10), ("versine/plan.jobKinds", laid_versine_plan_jobKinds)], narrowed := true }
def PlanChainsUptoSaid : Prop := planChainsUptoRow.holds Tryz.pinned (OpenSpec.upto planChainsSpec)

/-- 'versinelaw09.PlanBounded', WHERE WHAT IT READS IS OF BULK AT MOST 1048576: true; the input reads as it did. -/
def planBoundedUptoRow : OpenClaim := { program := "ytccddhoeampdjaagreatdoor", sum := "0c03f00d8b13e10df52be9df4c59d25e95183edf4c2959792272781ef2923217", func := "versine/versinelaw09.PlanBounded", spec := "planBounded", inPlace := ["internal/abi.NoEscape", "internal/bytealg.MakeNoZero"], unfollowed := true, recurses := true, named := ["versine/plan.jobKinds", "internal/strconv.uint64pow10", "math/bits.deBruijn32tab", "math/bits.deBruijn64tab"], apart := false, laid := [("math/bits.deBruijn32tab", laid_math_bits_deBruijn32tab), ("math/bits.deBruijn64tab", laid_math_bits_deBruijn64tab), ("internal/strconv.uint64pow10", laid_internal_strconv_uint64pow10), ("versine/plan.jobKinds", laid_versine_plan_jobKinds)], narrowed := true }
def PlanBoundedUptoSaid : Prop := planBoundedUptoRow.holds Tryz.pinned (OpenSpec.upto planBoundedSpec)

/-- 'versinelaw09.PlanSmooth', WHERE WHAT IT READS IS OF BULK AT MOST 1048576: true; the input reads as it did. -/
def planSmoothUptoRow : OpenClaim := { program := "ytccddhoeampdjaagreatdoor", sum := "0c03f00d8b13e10df52be9df4c59d25e95183edf4c2959792272781ef2923217", func := "versine/versinelaw09.PlanSmooth", spec := "planSmooth", inPlace := ["internal/abi.NoEscape", "internal/bytealg.MakeNoZero"], unfollowed := true, recurses := true, named := ["versine/plan.jobKinds", "internal/strconv.uint64pow10", "math/bits.deBruijn32tab", "math/bits.deBruijn64tab"], apart := false, laid := [("math/bits.deBruijn32tab", laid_math_bits_deBruijn32tab), ("math/bits.deBruijn64tab", laid_math_bits_deBruijn64tab), ("internal/strconv.uint64pow10", laid_internal_strconv_uint64pow10), ("versine/plan.jobKinds", laid_versine_plan_jobKinds)], narrowed := true }
def PlanSmoothUptoSaid : Prop := planSmoothUptoRow.holds Tryz.pinned (OpenSpec.upto planSmoothSpec)

/-- 'versinelaw09.PlanWarm', WHERE WHAT IT READS IS OF BULK AT MOST 1048576: true; the input reads as it did. -/
def planWarmUptoRow : OpenClaim := { program := "ytccddhoeampdjaagreatdoor", sum := "0c03f00d8b13e10df52be9df4c59d25e95183edf4c2959792272781ef2923217", func := "versine/versinelaw09.PlanWarm", spec := "planWarm", inPlace := ["internal/abi.NoEscape", "internal/bytealg.MakeNoZero"], unfollowed := true, recurses := true, named := ["versine/plan.jobKinds", "internal/strconv.uint64pow10", "math/bits.deBruijn32tab", "math/bits.deBruijn64tab"], apart := false, laid := [("math/bits.deBruijn32tab", laid_math_bits_deBruijn32tab), ("math/bits.deBruijn64tab", laid_math_bits_deBruijn64tab), ("internal/strconv.uint64pow10", laid_internal_strconv_uint64pow10), ("versine/plan.jobKinds", laid_versine_plan_jobKinds)], narrowed := true }
def PlanWarmUptoSaid : Prop := planWarmUptoRow.holds Tryz.pinned (OpenSpec.upto planWarmSpec)

/-- 'versinelaw09.PlanSequences', WHERE WHAT IT READS IS OF BULK AT MOST 1048576: true; the input reads as it did. -/
def planSequencesUptoRow : OpenClaim := { program := "ytccddhoeampdjaagreatdoor", sum := "0c03f00d8b13e10df52be9df4c59d25e95183edf4c2959792272781ef2923217", func := "versine/versinelaw09.PlanSequences", spec := "planSequences", inPlace := ["internal/abi.NoEscape", "internal/bytealg.MakeNoZero"], unfollowed := true, recurses := true, named := ["versine/plan.jobKinds", "internal/strconv.uint64pow10", "math/bits.deBruijn32tab", "math/bits.deBruijn64tab"], apart := false, laid := [("math/bits.deBruijn32tab", laid_math_bits_deBruijn32tab), ("math/bits.deBruijn64tab", laid_math_bits_deBruijn64tab), ("internal/strconv.uint64pow10", laid_internal_strconv_uint64pow10), ("versine/plan.jobKinds", laid_versine_plan_jobKinds)], narrowed := true }
def PlanSequencesUptoSaid : Prop := planSequencesUptoRow.holds Tryz.pinned (OpenSpec.upto planSequencesSpec)

/-- 'versinelaw09.PlanDays', WHERE WHAT IT READS IS OF BULK AT MOST 1048576: true; the input reads as it did. -/
def planDaysUptoRow : OpenClaim := { program := "ytccddhoeampdjaagreatdoor", sum := "0c03f00d8b13e10df52be9df4c59d25e95183edf4c2959792272781ef2923217", func := "versine/versinelaw09.PlanDays", spec := "planDays", inPlace := ["internal/abi.NoEscape", "internal/bytealg.MakeNoZero"], unfollowed := true, recurses := true, named := ["versine/plan.jobKinds", "internal/strconv.uint64pow10", "math/bits.deBruijn32tab", "math/bits.deBruijn64tab"], apart := false, laid := [("math/bits.deBruijn32tab", laid_math_bits_deBruijn32tab), ("math/bits.deBruijn64tab", laid_math_bits_deBruijn64tab), ("internal/strconv.uint64pow10", laid_internal_strconv_uint64pow10), ("versine/plan.jobKinds", laid_versine_plan_jobKinds)], narrowed := true }
def PlanDaysUptoSaid : Prop := planDaysUptoRow.holds Tryz.pinned (OpenSpec.upto planDaysSpec)

end Rows
end Go.Proofs.YtccddhoeampdjaaGreatDoor
