/- Chapter 9: the search for a sequence, the reference's. -/
import Derived.Test.YtlhgddgoblliaaaGreatDoorVt
set_option linter.unusedVariables false
set_option linter.unusedSimpArgs false
namespace Go.Proofs.YtlhgddgoblliaaaGreatDoor
open Go.RowKit Go.Sym

/-! All days given. -/
end Go.Proofs.YtlhgddgoblliaaaGreatDoor
