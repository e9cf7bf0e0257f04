/-
  NARROWER THAN 'FOR EVERY INPUT', by the rows' own cells (each row's printed sentence says how): ChordVersines: laid · ChordWeighted: laid · ChordWaves: laid · ChordBands: laid · ChordLong: laid · ChordBlind: laid · ChordAgain: laid · ChordTraces: laid · ChordTurned: laid.
  DERIVED. THE GIVEN ROWS OF THIS SEAT. 9 by the template 'for every input the law returns true; each argument reads behind the call as it read before'; 0 by the template 'total and deterministic' (their statements: YtbpffadffbgloaaDoorTotals.lean).
  GIVEN WITH THE SEED: the statements are not yours to turn. If you find one false, say at which input.
  Laid BY PROGRAM, IN A SANDBOX (cutbox-rows.mjs): the forced cells as the released guide's own fill.sh prints them over the translation 681c399586efc8d6… (all of the seat's roots in one cut). By AI agents, Wed Nov 11 2026. No macro, syntax, notation, axiom, sorry.
-/
import Derived.Test.YtbpffadffbgloaaDoorChecked
import GoSem.Claim
import GoSem.ClaimJoined
import GoSem.ClaimMapViews
import Derived.JoinedTies
import Derived.KernelRfl
namespace Go.Proofs.YtbpffadffbgloaaDoor
/- THE CELL 'sum', in the pinned program and in every row, IS THE sha256 OF THE DUMP (.gsa) THAT YtbpffadffbgloaaDoorProg.lean LOADS. Nothing in Lean hashes anything: it is a label: what it is worth is what the hold of that sum in a sandbox is worth. -/
noncomputable def Tryd.pinned : Pinned := { name := "ytbpffadffbgloaadoor", sum := "681c399586efc8d662f5ff5104751c5f09a4c05b0a2d1e3d1247f1720f4ed028", checked := Tryd.checked }
namespace Rows
def none {H : Type} : Left H := { results := [], args := [] }

/- WHAT THE LISTED PACKAGE-LEVEL VARIABLES READ AS WHEN THE CALL BEGINS. Each datum BY PROGRAM (the guide's laid-datum.mjs) off the statement by which the dump's own 'gosem.cut.vars' lays the variable. In a bare row this is a premise. The card (YtbpffadffbgloaaDoorCards.lean) ties it to the program's text. -/
def laid_math_bits_deBruijn32tab {H : Type} : DataW H := .agg [.lit (.int .u8 0), .lit (.int .u8 1), .lit (.int .u8 28), .lit (.int .u8 2), .lit (.int .u8 29), .lit (.int .u8 14), .lit (.int .u8 24), .lit (.int .u8 3), .lit (.int .u8 30), .lit (.int .u8 22), .lit (.int .u8 20), .lit (.int .u8 15), .lit (.int .u8 25), .lit (.int .u8 17), .lit (.int .u8 4), .lit (.int .u8 8), .lit (.int .u8 31), .lit (.int .u8 27), .lit (.int .u8 13), .lit (.int .u8 23), .lit (.int .u8 21), .lit (.int .u8 19), .lit (.int .u8 16), .lit (.int .u8 7), .lit (.int .u8 26), .lit (.int .u8 12), .lit (.int .u8 18), .lit (.int .u8 6), .lit (.int .u8 11), .lit (.int .u8 5), .lit (.int .u8 10), .lit (.int .u8 9)]
def laid_math_bits_deBruijn64tab {H : Type} : DataW H := .agg [.lit (.int .u8 0), .lit (.int .u8 1), .lit (.int .u8 56), .lit (.int .u8 2), .lit (.int .u8 57), .lit (.int .u8 49), .lit (.int .u8 28), .lit (.int .u8 3), .lit (.int .u8 61), .lit (.int .u8 58), .lit (.int .u8 42), .lit (.int .u8 50), .lit (.int .u8 38), .lit (.int .u8 29), .lit (.int .u8 17), .lit (.int .u8 4), .lit (.int .u8 62), .lit (.int .u8 47), .lit (.int .u8 59), .lit (.int .u8 36), .lit (.int .u8 45), .lit (.int .u8 43), .lit (.int .u8 51), .lit (.int .u8 22), .lit (.int .u8 53), .lit (.int .u8 39), .lit (.int .u8 33), .lit (.int .u8 30), .lit (.int .u8 24), .lit (.int .u8 18), .lit (.int .u8 12), .lit (.int .u8 5), .lit (.int .u8 63), .lit (.int .u8 55), .lit (.int .u8 48), .lit (.int .u8 27), .lit (.int .u8 60), .lit (.int .u8 41), .lit (.int .u8 37), .lit (.int .u8 16), .lit (.int .u8 46), .lit (.int .u8 35), .lit (.int .u8 44), .lit (.int .u8 21), .lit (.int .u8 52), .lit (.int .u8 32), .lit (.int .u8 23), .lit (.int .u8 11), .lit (.int .u8 54), .lit (.int .u8 26), .lit (.int .u8 40), .lit (.int .u8 15), .lit (.int .u8 34), .lit (.int .u8 20), .lit (.int .u8 31), .lit (.int .u8 10), .lit (.int .u8 25), .lit (.int .u8 14), .lit (.int .u8 19), .lit (.int .u8 9), .lit (.int .u8 13), .lit (.int .u8 8), .lit (.int .u8 7), .lit (.int .u8 6)]
def laid_internal_strconv_uint64pow10 {H : Type} : DataW H := .agg [.lit (.int .u64 1), .lit (.int .u64 10), .lit (.int .u64 100), .lit (.int .u64 1000), .lit (.int .u64 10000), .lit (.int .u64 100000), .lit (.int .u64 1000000), .lit (.int .u64 10000000), .lit (.int .u64 100000000), .lit (.int .u64 1000000000), .lit (.int .u64 10000000000), .lit (.int .u64 100000000000), .lit (.int .u64 1000000000000), .lit (.int .u64 10000000000000), .lit (.int .u64 100000000000000), .lit (.int .u64 1000000000000000), .lit (.int .u64 10000000000000000), .lit (.int .u64 100000000000000000), .lit (.int .u64 1000000000000000000), .lit (.int .u64 10000000000000000000)]
def laid_versine_chord_powers {H : Type} : DataW H := .agg [.agg [.lit (.int .i64 1), .lit (.int .i64 0)], .agg [.lit (.int .i64 0), .lit (.int .i64 1)], .agg [.lit (.int .i64 (-1)), .lit (.int .i64 0)], .agg [.lit (.int .i64 0), .lit (.int .i64 (-1))]]

/-- 'versinelaw03.ChordVersines': WHATEVER THE INPUT: true; the input reads as it did. -/
def chordVersinesSpec : ChangeSpec := { name := "chordVersines", fn := fun _ => fun
  | [d1, d2] => { results := [.lit (.bool true)], args := [d1, d2] }
  | _ => none }
def chordVersinesRow : OpenClaim := { program := "ytbpffadffbgloaadoor", sum := "681c399586efc8d662f5ff5104751c5f09a4c05b0a2d1e3d1247f1720f4ed028", func := "versine/versinelaw03.ChordVersines", spec := "chordVersines", inPlace := ["internal/abi.NoEscape", "internal/bytealg.MakeNoZero"], unfollowed := true, recurses := true, named := ["versine/chord.powers", "internal/strconv.uint64pow10", "math/bits.deBruijn32tab", "math/bits.deBruijn64tab"], apart := false, laid := [("math/bits.deBruijn32tab", laid_math_bits_deBruijn32tab), ("math/bits.deBruijn64tab", laid_math_bits_deBruijn64tab), ("internal/strconv.uint64pow10", laid_internal_strconv_uint64pow10), ("versine/chord.powers", laid_versine_chord_powers)] }
def ChordVersinesSaid : Prop := chordVersinesRow.holds Tryd.pinned (OpenSpec.ofChange chordVersinesSpec)

/-- ITS FALSE NEIGHBOUR: 'it returns false'. Refute it at one input. -/
def chordVersinesWrong : ChangeSpec := { name := "chordVersines", fn := fun _ => fun
  | [d1, d2] => { results := [.lit (.bool false)], args := [d1, d2] }
  | _ => none }
def ChordVersinesWrongFalsely : Prop := chordVersinesRow.holds Tryd.pinned (OpenSpec.ofChange chordVersinesWrong)

/-- 'versinelaw03.ChordWeighted': WHATEVER THE INPUT: true; the input reads as it did. -/
def chordWeightedSpec : ChangeSpec := { name := "chordWeighted", fn := fun _ => fun
  | [d1, d2, d3] => { results := [.lit (.bool true)], args := [d1, d2, d3] }
  | _ => none }
def chordWeightedRow : OpenClaim := { program := "ytbpffadffbgloaadoor", sum := "681c399586efc8d662f5ff5104751c5f09a4c05b0a2d1e3d1247f1720f4ed028", func := "versine/versinelaw03.ChordWeighted", spec := "chordWeighted", inPlace := ["internal/abi.NoEscape", "internal/bytealg.MakeNoZero"], unfollowed := true, recurses := true, named := ["versine/chord.powers", "internal/strconv.uint64pow10", "math/bits.deBruijn32tab", "math/bits.deBruijn64tab"], apart := false, laid := [("math/bits.deBruijn32tab", laid_math_bits_deBruijn32tab), ("math/bits.deBruijn64tab", laid_math_bits_deBruijn64tab), ("internal/strconv.uint64pow10", laid_internal_strconv_uint64pow10), ("versine/chord.powers", laid_versine_chord_powers)] }
def ChordWeightedSaid : Prop := chordWeightedRow.holds Tryd.pinned (OpenSpec.ofChange chordWeightedSpec)

/-- ITS FALSE NEIGHBOUR: 'it returns false'. Refute it at one input. -/
def chordWeightedWrong : ChangeSpec := { name := "chordWeighted", fn := fun _ => fun
  | [d1, d2, d3] => { results := [.lit (.bool false)], args := [d1, d2, d3] }
  | _ => none }
def ChordWeightedWrongFalsely : Prop := chordWeightedRow.holds Tryd.pinned (OpenSpec.ofChange chordWeightedWrong)

/-- 'versinelaw03.ChordWaves': WHATEVER THE INPUT: true; the input reads as it did. -/
def chordWavesSpec : ChangeSpec := { name := "chordWaves", fn := fun _ => fun
  | [d1, d2, d3] => { results := [.lit (.bool true)], args := [d1, d2, d3] }
  | _ => none }
def chordWavesRow : OpenClaim := { program := "ytbpffadffbgloaadoor", sum := "681c399586efc8d662f5ff5104751c5f09a4c05b0a2d1e3d1247f1720f4ed028", func := "versine/versinelaw03.ChordWaves", spec := "chordWaves", inPlace := ["internal/abi.NoEscape", "internal/bytealg.MakeNoZero"], unfollowed := true, recurses := true, named := ["versine/chord.powers", "internal/strconv.uint64pow10", "math/bits.deBruijn32tab", "math/bits.deBruijn64tab"], apart := false, laid := [("math/bits.deBruijn32tab", laid_math_bits_deBruijn32tab), ("math/bits.deBruijn64tab", laid_math_bits_deBruijn64tab), ("internal/strconv.uint64pow10", laid_internal_strconv_uint64pow10), ("versine/chord.powers", laid_versine_chord_powers)] }
def ChordWavesSaid : Prop := chordWavesRow.holds Tryd.pinned (OpenSpec.ofChange chordWavesSpec)

/-- ITS FALSE NEIGHBOUR: 'it returns false'. Refute it at one input. -/
def chordWavesWrong : ChangeSpec := { name := "chordWaves", fn := fun _ => fun
  | [d1, d2, d3] => { results := [.lit (.bool false)], args := [d1, d2, d3] }
  | _ => none }
def ChordWavesWrongFalsely : Prop := chordWavesRow.holds Tryd.pinned (OpenSpec.ofChange chordWavesWrong)

/-- 'versinelaw03.ChordBands': WHATEVER THE INPUT: true; the input reads as it did. -/
def chordBandsSpec : ChangeSpec := { name := "chordBands", fn := fun _ => fun
  | [d1, d2] => { results := [.lit (.bool true)], args := [d1, d2] }
  | _ => none }
def chordBandsRow : OpenClaim := { program := "ytbpffadffbgloaadoor", sum := "681c399586efc8d662f5ff5104751c5f09a4c05b0a2d1e3d1247f1720f4ed028", func := "versine/versinelaw03.ChordBands", spec := "chordBands", inPlace := ["internal/abi.NoEscape", "internal/bytealg.MakeNoZero"], unfollowed := true, recurses := true, named := ["versine/chord.powers", "internal/strconv.uint64pow10", "math/bits.deBruijn32tab", "math/bits.deBruijn64tab"], apart := false, laid := [("math/bits.deBruijn32tab", laid_math_bits_deBruijn32tab), ("math/bits.deBruijn64tab", laid_math_bits_deBruijn64tab), ("internal/strconv.uint64pow10", laid_internal_strconv_uint64pow10), ("versine/chord.powers", laid_versine_chord_powers)] }
def ChordBandsSaid : Prop := chordBandsRow.holds Tryd.pinned (OpenSpec.ofChange chordBandsSpec)

/-- ITS FALSE NEIGHBOUR: 'it returns false'. Refute it at one input. -/
def chordBandsWrong : ChangeSpec := { name := "chordBands", fn := fun _ => fun
  | [d1, d2] => { results := [.lit (.bool false)], args := [d1, d2] }
  | _ => none }
def ChordBandsWrongFalsely : Prop := chordBandsRow.holds Tryd.pinned (OpenSpec.ofChange chordBandsWrong)

/-- 'versinelaw03.ChordLong': WHATEVER THE INPUT: true; the input reads as it did. -/
def chordLongSpec : ChangeSpec := { name := "chordLong", fn := fun _ => fun
  | [d1, d2, d3] => { results := [.lit (.bool true)], args := [d1, d2, d3] }
  | _ => none }
def chordLongRow : OpenClaim := { program := "ytbpffadffbgloaadoor", sum := "681c399586efc8d662f5ff5104751c5f09a4c05b0a2d1e3d1247f1720f4ed028", func := "versine/versinelaw03.ChordLong", spec := "chordLong", inPlace := ["internal/abi.NoEscape", "internal/bytealg.MakeNoZero"], unfollowed := true, recurses := true, named := ["versine/chord.powers", "internal/strconv.uint64pow10", "math/bits.deBruijn32tab", "math/bits.deBruijn64tab"], apart := false, laid := [("math/bits.deBruijn32tab", laid_math_bits_deBruijn32tab), ("math/bits.deBruijn64tab", laid_math_bits_deBruijn64tab), ("internal/strconv.uint64pow10", laid_internal_strconv_uint64pow10), ("versine/chord.powers", laid_versine_chord_powers)] }
def ChordLongSaid : Prop := chordLongRow.holds Tryd.pinned (OpenSpec.ofChange chordLongSpec)

/-- ITS FALSE NEIGHBOUR: 'it returns false'. Refute it at one input. -/
def chordLongWrong : ChangeSpec := { name := "chordLong", fn := fun _ => fun
  | [d1, d2, d3] => { results := [.lit (.bool false)], args := [d1, d2, d3] }
  | _ => none }
def ChordLongWrongFalsely : Prop := chordLongRow.holds Tryd.pinned (OpenSpec.ofChange chordLongWrong)

/-- 'versinelaw03.ChordBlind': WHATEVER THE INPUT: true; the input reads as it did. -/
def chordBlindSpec : ChangeSpec := { name := "chordBlind", fn := fun _ => fun
  | [d1, d2, d3] => { results := [.lit (.bool true)], args := [d1, d2, d3] }
  | _ => none }
def chordBlindRow : OpenClaim := { program := "ytbpffadffbgloaadoor", sum := "681c399586efc8d662f5ff5104751c5f09a4c05b0a2d1e3d1247f1720f4ed028", func := "versine/versinelaw03.ChordBlind", spec := "chordBlind", inPlace := ["internal/abi.NoEscape", "internal/bytealg.MakeNoZero"], unfollowed := true, recurses := true, named := ["versine/chord.powers", "internal/strconv.uint64pow10", "math/bits.deBruijn32tab", "math/bits.deBruijn64tab"], apart := false, laid := [("math/bits.deBruijn32tab", laid_math_bits_deBruijn32tab), ("math/bits.deBruijn64tab", laid_math_bits_deBruijn64tab), ("internal/strconv.uint64pow10", laid_internal_strconv_uint64pow10), ("versine/chord.powers", laid_versine_chord_powers)] }
def ChordBlindSaid : Prop := chordBlindRow.holds Tryd.pinned (OpenSpec.ofChange chordBlindSpec)

/-- ITS FALSE NEIGHBOUR: 'it returns false'. Refute it at one input. -/
def chordBlindWrong : ChangeSpec := { name := "chordBlind", fn := fun _ => fun
  | [d1, d2, d3] => { results := [.lit (.bool false)], args := [d1, d2, d3] }
  | _ => none }
def ChordBlindWrongFalsely : Prop := chordBlindRow.holds Tryd.pinned (OpenSpec.ofChange chordBlindWrong)

/-- 'versinelaw03.ChordAgain': WHATEVER THE INPUT: true; the input reads as it did. -/
def chordAgainSpec : ChangeSpec := { name := "chordAgain", fn := fun _ => fun
  | [d1, d2, d3] => { results := [.lit (.bool true)], args := [d1, d2, d3] }
  | _ => none }
def chordAgainRow : OpenClaim := { program := "ytbpffadffbgloaadoor", sum := "681c399586efc8d662f5ff5104751c5f09a4c05b0a2d1e3d1247f1720f4ed028", func := "versine/versinelaw03.ChordAgain", spec := "chordAgain", inPlace := ["internal/abi.NoEscape", "internal/bytealg.MakeNoZero"], unfollowed := true, recurses := true, named := ["versine/chord.powers", "internal/strconv.uint64pow10", "math/bits.deBruijn32tab", "math/bits.deBruijn64tab"], apart := false, laid := [("math/bits.deBruijn32tab", laid_math_bits_deBruijn32tab), ("math/bits.deBruijn64tab", laid_math_bits_deBruijn64tab), ("internal/strconv.uint64pow10", laid_internal_strconv_uint64pow10), ("versine/chord.powers", laid_versine_chord_powers)] }
def ChordAgainSaid : Prop := chordAgainRow.holds Tryd.pinned (OpenSpec.ofChange chordAgainSpec)

/-- ITS FALSE NEIGHBOUR: 'it returns false'. Refute it at one input. -/
def chordAgainWrong : ChangeSpec := { name := "chordAgain", fn := fun _ => fun
  | [d1, d2, d3] => { results := [.lit (.bool false)], args := [d1, d2, d3] }
  | _ => none }
def ChordAgainWrongFalsely : Prop := chordAgainRow.holds Tryd.pinned (OpenSpec.ofChange chordAgainWrong)

/-- 'versinelaw03.ChordTraces': WHATEVER THE INPUT: true; the input reads as it did. -/
def chordTracesSpec : ChangeSpec := { name := "chordTraces", fn := fun _ => fun
  | [d1, d2, d3] => { results := [.lit (.bool true)], args := [d1, d2, d3] }
  | _ => none }
def chordTracesRow : OpenClaim := { program := "ytbpffadffbgloaadoor", sum := "681c399586efc8d662f5ff5104751c5f09a4c05b0a2d1e3d1247f1720f4ed028", func := "versine/versinelaw03.ChordTraces", spec := "chordTraces", inPlace := ["internal/abi.NoEscape", "internal/bytealg.MakeNoZero"], unfollowed := true, recurses := true, named := ["versine/chord.powers", "internal/strconv.uint64pow10", "math/bits.deBruijn32tab", "math/bits.deBruijn64tab"], apart := false, laid := [("math/bits.deBruijn32tab", laid_math_bits_deBruijn32tab), ("math/bits.deBruijn64tab", laid_math_bits_deBruijn64tab), ("internal/strconv.uint64pow10", laid_internal_strconv_uint64pow10), ("versine/chord.powers", laid_versine_chord_powers)] }
def ChordTracesSaid : Prop := chordTracesRow.holds Tryd.pinned (OpenSpec.ofChange chordTracesSpec)

/-- ITS FALSE NEIGHBOUR: 'it returns false'. Refute it at one input. -/
def chordTracesWrong : ChangeSpec := { name := "chordTraces", fn := fun _ => fun
  | [d1, d2, d3] => { results := [.lit (.bool false)], args := [d1, d2, d3] }
  | _ => none }
def ChordTracesWrongFalsely : Prop := chordTracesRow.holds Tryd.pinned (OpenSpec.ofChange chordTracesWrong)

/-- 'versinelaw03.ChordTurned': WHATEVER THE INPUT: true; the input reads as it did. -/
def chordTurnedSpec : ChangeSpec := { name := "chordTurned", fn := fun _ => fun
  | [d1, d2, d3] => { results := [.lit (.bool true)], args := [d1, d2, d3] }
  | _ => none }
def chordTurnedRow : OpenClaim := { program := "ytbpffadffbgloaadoor", sum := "681c399586efc8d662f5ff5104751c5f09a4c05b0a2d1e3d1247f1720f4ed028", func := "versine/versinelaw03.ChordTurned", spec := "chordTurned", inPlace := ["internal/abi.NoEscape", "internal/bytealg.MakeNoZero"], unfollowed := true, recurses := true, named := ["versine/chord.powers", "internal/strconv.uint64pow10", "math/bits.deBruijn32tab", "math/bits.deBruijn64tab"], apart := false, laid := [("math/bits.deBruijn32tab", laid_math_bits_deBruijn32tab), ("math/bits.deBruijn64tab", laid_math_bits_deBruijn64tab), ("internal/strconv.uint64pow10", laid_internal_strconv_uint64pow10), ("versine/chord.powers", laid_versine_chord_powers)] }
def ChordTurnedSaid : Prop := chordTurnedRow.holds Tryd.pinned (OpenSpec.ofChange chordTurnedSpec)

/-- ITS FALSE NEIGHBOUR: 'it returns false'. Refute it at one input. -/
def chordTurnedWrong : ChangeSpec := { name := "chordTurned", fn := fun _ => fun
  | [d1, d2, d3] => { results := [.lit (.bool false)], args := [d1, d2, d3] }
  | _ => none }
def ChordTurnedWrongFalsely : Prop := chordTurnedRow.holds Tryd.pinned (OpenSpec.ofChange chordTurnedWrong)

/- THE SECOND FORM. 'bulk': how many values and letters a reading holds, each counted each time it is reached (what is shared counts as often as it is met; a slice's spare places count too). A statement '..UptoSaid' is the law's where the arguments, and the package variables that the reading takes, are together of bulk at most 1048576: NARROWER than '..Said'. Prove '..Said' where nothing that the law and all that it calls make is longer than what came in: it says more and counts as full. Else prove '..UptoSaid'. A law counts once. -/
mutual
def uptoBulk {H : Type} : DataW H → Nat
  | .lit (.string bytes) => bytes.length + 1
  | .lit _ => 1
  | .nil => 1
  | .ptr d => uptoBulk d + 1
  | .slice elems spare => uptoBulkAll elems + uptoBulkAll spare + 1
  | .agg parts => uptoBulkAll parts + 1
  | .iface _ d => uptoBulk d + 1
  | .map entries => uptoBulkEntries entries + 1
  | .held _ => 1
def uptoBulkAll {H : Type} : List (DataW H) → Nat
  | [] => 0
  | d :: r => uptoBulk d + uptoBulkAll r
def uptoBulkEntries {H : Type} : List (Lit × DataW H) → Nat
  | [] => 0
  | x :: r => uptoBulkEntry x + uptoBulkEntries r
def uptoBulkEntry {H : Type} : Lit × DataW H → Nat
  | (.string bytes, d) => bytes.length + uptoBulk d + 1
  | (_, d) => uptoBulk d + 1
 end
def uptoSmall : (H : Type) → List (DataW H) → Bool := fun _ ds => decide (uptoBulkAll ds ≤ 1048576)
def OpenSpec.upto (s : _root_.Go.ChangeSpec) : _root_.Go.OpenSpec := { _root_.Go.OpenSpec.ofChange s with cond := some uptoSmall }

/-- 'versinelaw03.ChordVersines', WHERE WHAT IT READS IS OF BULK AT MOST 1048576: true; the input reads as it did. -/
def chordVersinesUptoRow : OpenClaim := { program := "ytbpffadffbgloaadoor", sum := "681c399586efc8d662f5ff5104751c5f09a4c05b0a2d1e3d1247f1720f4ed028", func := "versine/versinelaw03.ChordVersines", spec := "chordVersines", inPlace := ["internal/abi.NoEscape", "internal/bytealg.MakeNoZero"], unfollowed := true, recurses := true, named := ["versine/chord.powers", "internal/strconv.uint64pow10", "math/bits.deBruijn32tab", "math/bits.deBruijn64tab"], apart := false, laid := [("math/bits.deBruijn32tab", laid_math_bits_deBruijn32tab), ("math/bits.deBruijn64tab", laid_math_bits_deBruijn64tab), ("internal/strconv.uint64pow10", laid_internal_strconv_uint64pow10), ("versine/chord.powers", laid_versine_chord_powers)], narrowed := true }
def ChordVersinesUptoSaid : Prop := chordVersinesUptoRow.holds Tryd.pinned (OpenSpec.upto chordVersinesSpec)

/-- 'versinelaw03.ChordWeighted', WHERE WHAT IT READS IS OF BULK AT MOST 1048576: true; the input reads as it did. -/
def chordWeightedUptoRow : OpenClaim := { program := "ytbpffadffbgloaadoor", sum := "681c399586efc8d662f5ff5104751c5f09a4c05b0a2d1e3d1247f1720f4ed028", func := "versine/versinelaw03.ChordWeighted", spec := "chordWeighted", inPlace := ["internal/abi.NoEscape", "internal/bytealg.MakeNoZero"], unfollowed := true, recurses := true, named := ["versine/chord.powers", "internal/strconv.uint64pow10", "math/bits.deBruijn32tab", "math/bits.deBruijn64tab"], apart := false, laid := [("math/bits.deBruijn32tab", laid_math_bits_deBruijn32tab), ("math/bits.deBruijn64tab", laid_math_bits_deBruijn64tab), ("internal/strconv.uint64pow10", laid_internal_strconv_uint64pow10), ("versine/chord.powers", laid_versine_chord_powers)], narrowed := true }
def ChordWeightedUptoSaid : Prop := chordWeightedUptoRow.holds Tryd.pinned (OpenSpec.upto chordWeightedSpec)

/-- 'versinelaw03.ChordWaves', WHERE WHAT IT READS IS OF BULK AT MOST 1048576: true; the input reads as it did. -/
def chordWavesUptoRow : OpenClaim := { program := "ytbpffadffbgloaadoor", sum := "681c399586efc8d662f5ff5104751c5f09a4c05b0a2d1e3d1247f1720f4ed028", func := "versine/versinelaw03.ChordWaves", spec := "chordWaves", inPlace := ["internal/abi.NoEscape", "internal/bytealg.MakeNoZero"], unfollowed := true, recurses := true, named := ["versine/chord.powers", "internal/strconv.uint64pow10", "math/bits.deBruijn32tab", "math/bits.deBruijn64tab"], apart := false, laid := [("math/bits.deBruijn32tab", laid_math_bits_deBruijn32tab), ("math/bits.deBruijn64tab", laid_math_bits_deBruijn64tab), ("internal/strconv.uint64pow10", laid_internal_strconv_uint64pow10), ("versine/chord.powers", laid_versine_chord_powers)], narrowed := true }
def ChordWavesUptoSaid : Prop := chordWavesUptoRow.holds Tryd.pinned (OpenSpec.upto chordWavesSpec)

/-- 'versinelaw03.ChordBands', WHERE WHAT IT READS IS OF BULK AT MOST 1048576: true; the input reads as it did. -/
def chordBandsUptoRow : OpenClaim := { program := "ytbpffadffbgloaadoor", sum := "681c399586efc8d662f5ff5104751c5f09a4c05b0a2d1e3d1247f1720f4ed028", func := "versine/versinelaw03.ChordBands", spec := "chordBands", inPlace := ["internal/abi.NoEscape", "internal/bytealg.MakeNoZero"], unfollowed := true, recurses := true, named := ["versine/chord.powers", "internal/strconv.uint64pow10", "math/bits.deBruijn32tab", "math/bits.deBruijn64tab"], apart := false, laid := [("math/bits.deBruijn32tab", laid_math_bits_deBruijn32tab), ("math/bits.deBruijn64tab", laid_math_bits_deBruijn64tab), ("internal/strconv.uint64pow10", laid_internal_strconv_uint64pow10), ("versine/chord.powers", laid_versine_chord_powers)], narrowed := true }
def ChordBandsUptoSaid : Prop := chordBandsUptoRow.holds Tryd.pinned (OpenSpec.upto chordBandsSpec)

/-- 'versinelaw03.ChordLong', WHERE WHAT IT READS IS OF BULK AT MOST 1048576: true; the input reads as it did. -/
def chordLongUptoRow : OpenClaim := { program := "ytbpffadffbgloaadoor", sum := "681c399586efc8d662f5ff5104751c5f09a4c05b0a2d1e3d1247f1720f4ed028", func := "versine/versinelaw03.ChordLong", spec := "chordLong", inPlace := ["internal/abi.NoEscape", "internal/bytealg.MakeNoZero"], unfollowed := true, recurses := true, named := ["versine/chord.powers", "internal/strconv.uint64pow10", "math/bits.deBruijn32tab", "math/bits.deBruijn64tab"], apart := false, laid := [("math/bits.deBruijn32tab", laid_math_bits_deBruijn32tab), ("math/bits.deBruijn64tab", laid_math_bits_deBruijn64tab), ("internal/strconv.uint64pow10", laid_internal_strconv_uint64pow10), ("versine/chord.powers", laid_versine_chord_powers)], narrowed := true }
def ChordLongUptoSaid : Prop := chordLongUptoRow.holds Tryd.pinned (OpenSpec.upto chordLongSpec)

/-- 'versinelaw03.ChordBlind', WHERE WHAT IT READS IS OF BULK AT MOST 1048576: true; the input reads as it did. -/
def chordBlindUptoRow : OpenClaim := { program := "ytbpffadffbgloaadoor", sum := "681c399586efc8d662f5ff5104751c5f09a4c05b0a2d1e3d1247f1720f4ed028", func := "versine/versinelaw03.ChordBlind", spec := "chordBlind", inPlace := ["internal/abi.NoEscape", "internal/bytealg.MakeNoZero"], unfollowed := true, recurses := true, named := ["versine/chord.powers", "internal/strconv.uint64pow10", "math/bits.deBruijn32tab", "math/bits.deBruijn64tab"], apart := false, laid := [("math/bits.deBruijn32tab", laid_math_bits_deBruijn32tab), ("math/bits.deBruijn64tab", laid_math_bits_deBruijn64tab), ("internal/strconv.uint64pow10", laid_internal_strconv_uint64pow10), ("versine/chord.powers", laid_versine_chord_powers)], narrowed := true }
def ChordBlindUptoSaid : Prop := chordBlindUptoRow.holds Tryd.pinned (OpenSpec.upto chordBlindSpec)

/-- 'versinelaw03.ChordAgain', WHERE WHAT IT READS IS OF BULK AT MOST 1048576: true; the input reads as it did. -/
def chordAgainUptoRow : OpenClaim := { program := "ytbpffadffbgloaadoor", sum := "681c399586efc8d662f5ff5104751c5f09a4c05b0a2d1e3d1247f1720f4ed028", func := "versine/versinelaw03.ChordAgain", spec := "chordAgain", inPlace := ["internal/abi.NoEscape", "internal/bytealg.MakeNoZero"], unfollowed := true, recurses := true, named := ["versine/chord.powers", "internal/strconv.uint64pow10", "math/bits.deBruijn32tab", "math/bits.deBruijn64tab"], apart := false, laid := [("math/bits.deBruijn32tab", laid_math_bits_deBruijn32tab), ("math/bits.deBruijn64tab", laid_math_bits_deBruijn64tab), ("internal/strconv.uint64pow10", laid_internal_strconv_uint64pow10), ("versine/chord.powers", laid_versine_chord_powers)], narrowed := true }
def ChordAgainUptoSaid : Prop := chordAgainUptoRow.holds Tryd.pinned (OpenSpec.upto chordAgainSpec)

/-- 'versinelaw03.ChordTraces', WHERE WHAT IT READS IS OF BULK AT MOST 1048576: true; the input reads as it did. -/
def chordTracesUptoRow : OpenClaim := { program := "ytbpffadffbgloaadoor", sum := "681c399586efc8d662f5ff5104751c5f09a4c05b0a2d1e3d1247f1720f4ed028", func := "versine/versinelaw03.ChordTraces", spec := "chordTraces", inPlace := ["internal/abi.NoEscape", "internal/bytealg.MakeNoZero"], unfollowed := true, recurses := true, named := ["versine/chord.powers", "internal/strconv.uint64pow10", "math/bits.deBruijn32tab", "math/bits.deBruijn64tab"], apart := false, laid := [("math/bits.deBruijn32tab", laid_math_bits_deBruijn32tab), ("math/bits.deBruijn64tab", laid_math_bits_deBruijn64tab), ("internal/strconv.uint64pow10", laid_internal_strconv_uint64pow10), ("versine/chord.powers", laid_versine_chord_powers)], narrowed := true }
def ChordTracesUptoSaid : Prop := chordTracesUptoRow.holds Tryd.pinned (OpenSpec.upto chordTracesSpec)

/-- 'versinelaw03.ChordTurned', WHERE WHAT IT READS IS OF BULK AT MOST 1048576: true; the input reads as it did. -/
def chordTurnedUptoRow : OpenClaim := { program := "ytbpffadffbgloaadoor", sum := "681c399586efc8d662f5ff5104751c5f09a4c05b0a2d1e3d1247f1720f4ed028", func := "versine/versinelaw03.ChordTurned", spec := "chordTurned", inPlace := ["internal/abi.NoEscape", "internal/bytealg.MakeNoZero"], unfollowed := true, recurses := true, named := ["versine/chord.powers", "internal/strconv.uint64pow10", "math/bits.deBruijn32tab", "math/bits.deBruijn64tab"], apart := false, laid := [("math/bits.deBruijn32tab", laid_math_bits_deBruijn32tab), ("math/bits.deBruijn64tab", laid_math_bits_deBruijn64tab), ("internal/strconv.uint64pow10", laid_internal_strconv_uint64pow10), ("versine/chord.powers", laid_versine_chord_powers)], narrowed := true }
def ChordTurnedUptoSaid : Prop := chordTurnedUptoRow.holds Tryd.pinned (OpenSpec.upto chordTurnedSpec)

end Rows
end Go.Proofs.YtbpffadffbgloaaDoor
