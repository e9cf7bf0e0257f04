/- Chapter 5: what all laws share: the variables that are laid, awake. -/
import Derived.Test.YtpfafdnempehkaaGreatDoorDl
import Derived.Test.YtpfafdnempehkaaGreatDoorB5
set_option linter.unusedVariables false
set_option linter.unusedSimpArgs false
namespace Go.Proofs.YtpfafdnempehkaaGreatDoor
open Go.RowKit Go.Sym

abbrev lawG : List (Nat × Nat) := [(0, 1), (2, 0)]
abbrev pwC : Chunk := .rb 246 powL
abbrev fmC : Chunk := .rb 181 [.lit (.string ⟨⟨[109, 97, 114, 107]⟩⟩), .fn 171 [] [], .fn 172 [] [], .lit (.string ⟨⟨[115, 105, 103, 104, 116]⟩⟩), .fn 173 [] [], .fn 174 [] []]
def Awake_i : Inst := { f := 4, gl := lawG, hin := [(0, pwC), (1, fmC)], args := [], hout := [], ret := bl true, σ := [(0, some 0), (1, some 1)] }
theorem Awake_s : Awake_i.ok Tryz.prog := a5awake_ok


end Go.Proofs.YtpfafdnempehkaaGreatDoor
