/- Chapter 5: what all laws share: the variables that are laid, awake. -/
import Derived.Test.YthjdkmibfngjbaaGreatDoorDn
import Derived.Test.YthjdkmibfngjbaaGreatDoorB5
set_option linter.unusedVariables false
set_option linter.unusedSimpArgs false
namespace Go.Proofs.YthjdkmibfngjbaaGreatDoor
open Go.RowKit Go.Sym

abbrev lawG : List (Nat × Nat) := [(0, 1), (2, 0)]
abbrev pwC : Chunk := .rb 287 powL
abbrev fmC : Chunk := .rb 225 [.lit (.string ⟨⟨[109, 97, 114, 107]⟩⟩), .fn 217 [] [], .fn 218 [] [], .lit (.string ⟨⟨[115, 105, 103, 104, 116]⟩⟩), .fn 219 [] [], .fn 220 [] []]
def Awake_i : Inst := { f := 7, gl := lawG, hin := [(0, pwC), (1, fmC)], args := [], hout := [], ret := bl true, σ := [(0, some 0), (1, some 1)] }
theorem Awake_s : Awake_i.ok Tryz.prog := a5awake_ok

theorem kinds_of {m : List Th} (h : kindS m = true) : kindsOk m := by
  intro i
  rw [List.getD_eq_getElem?_getD]
  cases hi : m[i]? with
  | none => show (0 : Nat) ≤ 1000000; omega
  | some x =>
    have := List.all_eq_true.1 h x (List.mem_of_getElem? hi)
    have := of_decide_eq_true this
    simp only [Option.getD_some]
    omega

end Go.Proofs.YthjdkmibfngjbaaGreatDoor
