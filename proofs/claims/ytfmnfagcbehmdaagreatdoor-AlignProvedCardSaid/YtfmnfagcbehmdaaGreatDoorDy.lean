/- Chapter 5: what all laws share: the variables that are laid, awake. -/
import Derived.Test.YtfmnfagcbehmdaaGreatDoorDm
import Derived.Test.YtfmnfagcbehmdaaGreatDoorDx
set_option linter.unusedVariables false
set_option linter.unusedSimpArgs false
namespace Go.Proofs.YtfmnfagcbehmdaaGreatDoor
open Go.RowKit Go.Sym

theorem kinds_of {m : List Th} (h : kindS m = true) : kindsOk m := by
  intro i
  rw [List.getD_eq_getElem?_getD]
  cases hi : m[i]? with
  | none => show (0 : Nat) ≤ 1000000; omega
  | some x =>
    have := List.all_eq_true.1 h x (List.mem_of_getElem? hi)
    have := of_decide_eq_true this
    simp only [Option.getD_some]
    omega

end Go.Proofs.YtfmnfagcbehmdaaGreatDoor
