/- Chapter 9: the variables that are laid, awake. -/
import Derived.Test.YtlhgddgoblliaaaGreatDoorF9
set_option linter.unusedVariables false
set_option linter.unusedSimpArgs false
namespace Go.Proofs.YtlhgddgoblliaaaGreatDoor
open Go.RowKit Go.Sym

abbrev lawG : List (Nat × Nat) := [(0, 1), (4, 0)]
abbrev pwC : Chunk := .rb 271 powL
abbrev kdC : Chunk := .rb 145 [.lit (.string ⟨⟨[116, 97, 109, 112]⟩⟩), .lit (.string ⟨⟨[103, 114, 105, 110, 100]⟩⟩), .lit (.string ⟨⟨[119, 101, 108, 100]⟩⟩)]
def Awake_i : Inst := { f := 8, gl := lawG, hin := [(0, pwC), (1, kdC)], args := [], hout := [], ret := bl true, σ := [(0, some 0), (1, some 1)] }
theorem Awake_s : Awake_i.ok Tryz.prog := a9awake_ok

end Go.Proofs.YtlhgddgoblliaaaGreatDoor
