/- Chapter 5: the variables that are laid, awake. -/
import Derived.Test.YtoopgdchiljmiaaGreatDoorB5
set_option linter.unusedVariables false
set_option linter.unusedSimpArgs false
namespace Go.Proofs.YtoopgdchiljmiaaGreatDoor
open Go.RowKit Go.Sym

abbrev lawG : List (Nat × Nat) := [(0, 1), (2, 0)]
abbrev pwC : Chunk := .rb 339 powL
abbrev fmC : Chunk := .rb 252 [.lit (.string ⟨⟨[109, 97, 114, 107]⟩⟩), .fn 274 [] [], .fn 275 [] [], .lit (.string ⟨⟨[115, 105, 103, 104, 116]⟩⟩), .fn 276 [] [], .fn 277 [] []]
def Awake_i : Inst := { f := 14, gl := lawG, hin := [(0, pwC), (1, fmC)], args := [], hout := [], ret := bl true, σ := [(0, some 0), (1, some 1)] }
theorem Awake_s : Awake_i.ok Tryz.prog := a5awake_ok

end Go.Proofs.YtoopgdchiljmiaaGreatDoor
