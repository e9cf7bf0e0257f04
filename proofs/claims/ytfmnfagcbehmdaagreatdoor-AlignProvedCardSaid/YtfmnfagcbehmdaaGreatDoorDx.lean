/- Chapter 5: the variables that are laid, awake. -/
import Derived.Test.YtfmnfagcbehmdaaGreatDoorB5
set_option linter.unusedVariables false
set_option linter.unusedSimpArgs false
namespace Go.Proofs.YtfmnfagcbehmdaaGreatDoor
open Go.RowKit Go.Sym

abbrev lawG : List (Nat × Nat) := [(0, 1), (2, 0)]
abbrev pwC : Chunk := .rb 297 powL
abbrev fmC : Chunk := .rb 172 [.lit (.string ⟨⟨[109, 97, 114, 107]⟩⟩), .fn 231 [] [], .fn 232 [] [], .lit (.string ⟨⟨[115, 105, 103, 104, 116]⟩⟩), .fn 233 [] [], .fn 234 [] []]
def Awake_i : Inst := { f := 8, gl := lawG, hin := [(0, pwC), (1, fmC)], args := [], hout := [], ret := bl true, σ := [(0, some 0), (1, some 1)] }
theorem Awake_s : Awake_i.ok Tryz.prog := a5awake_ok

end Go.Proofs.YtfmnfagcbehmdaaGreatDoor
