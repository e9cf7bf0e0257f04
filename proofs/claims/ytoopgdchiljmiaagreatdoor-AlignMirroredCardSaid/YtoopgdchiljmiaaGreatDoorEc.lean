/- Chapter 5: Within, the reference's and the program's. -/
import Derived.Test.YtoopgdchiljmiaaGreatDoorEb
set_option linter.unusedVariables false
set_option linter.unusedSimpArgs false
namespace Go.Proofs.YtoopgdchiljmiaaGreatDoor
open Go.RowKit Go.Sym

theorem absI_if (d : Int) : absI d = if 0 - d > d then 0 - d else d := by unfold absI; split <;> omega
def withS (m s : List Th) (r b n : Int) (l : List (Int × Int)) : (Int × Int) × Int := if (interS m s r b n l l.length).1 > (interS m s r b n l l.length).2 then ((0, 0), 24) else (interS m s r b n l l.length, 0)
end Go.Proofs.YtoopgdchiljmiaaGreatDoor
