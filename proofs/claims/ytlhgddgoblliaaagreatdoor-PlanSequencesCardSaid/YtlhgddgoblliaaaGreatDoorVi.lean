/- Chapter 9: the longest chain, the reference's. -/
import Derived.Test.YtlhgddgoblliaaaGreatDoorVg
set_option linter.unusedVariables false
set_option linter.unusedSimpArgs false
namespace Go.Proofs.YtlhgddgoblliaaaGreatDoor
open Go.RowKit Go.Sym

theorem catI_head (k : Int) (l : List Int) : (Cont.ints .i64 (k :: l)).cells = (catC (Cont.exp [i64 k]) (Cont.ints .i64 l)).cells := by rw [catC_cells]; simp [Cont.cells]
/-! The best of all. -/
end Go.Proofs.YtlhgddgoblliaaaGreatDoor
