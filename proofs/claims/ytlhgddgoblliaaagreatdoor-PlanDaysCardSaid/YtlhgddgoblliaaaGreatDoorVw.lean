/- Chapter 9: the best sequence, the reference's. -/
import Derived.Test.YtlhgddgoblliaaaGreatDoorVv
set_option linter.unusedVariables false
set_option linter.unusedSimpArgs false
namespace Go.Proofs.YtlhgddgoblliaaaGreatDoor
open Go.RowKit Go.Sym

def rqB (l : List Jb) (H : List Int) (hi : Int) (k : Nat) : Option (List Int) := rsF l H hi (k + 1) l.length []
def rqF (l : List Jb) (H : List Int) (hi : Int) : Option (List Int) := tryF (rqB l H hi) H.length
end Go.Proofs.YtlhgddgoblliaaaGreatDoor
