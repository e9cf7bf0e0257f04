/- Chapter 9: the search for a sequence, the reference's, whole. -/
import Derived.Test.YtlhgddgoblliaaaGreatDoorVu
import Derived.Test.YtlhgddgoblliaaaGreatDoorSX
set_option linter.unusedVariables false
set_option linter.unusedSimpArgs false
namespace Go.Proofs.YtlhgddgoblliaaaGreatDoor
open Go.RowKit Go.Sym

def padD (n : Nat) (p : List Int) : List Int := p ++ List.replicate (n - p.length) (-1)
def rsB (l : List Jb) (H : List Int) (hi : Int) (g : List Int → Option (List Int)) (pre : List Int) (d : Nat) : Option (List Int) := if ckS l H hi (padD l.length (pre ++ [(d : Int)])) pre.length = 0 then g (pre ++ [(d : Int)]) else none
def rsF (l : List Jb) (H : List Int) (hi : Int) (e : Nat) : Nat → List Int → Option (List Int)
  | 0, pre => if csX l H hi pre = 0 then some pre else none
  | r + 1, pre => tryF (rsB l H hi (rsF l H hi e r) pre) e
end Go.Proofs.YtlhgddgoblliaaaGreatDoor
