/- Chapter 9: chains, in plain Lean: the longest one by rounds, and by searching. -/
import Derived.Test.YtlhgddgoblliaaaGreatDoorVf
set_option linter.unusedVariables false
set_option linter.unusedSimpArgs false
namespace Go.Proofs.YtlhgddgoblliaaaGreatDoor
open Go.RowKit Go.Sym

section chains
variable (n : Nat) (E : Nat → Nat → Bool)
variable {n E}
end chains

/-! Jobs without a cycle. -/
theorem ix_name {l : List Jb} (h : jbsE l = 0) {i : Nat} (hi : i < l.length) : ixV (nmJ l) (l.getD i jbD).name = i := by
  have h1 := jbs_names h i hi
  have h2 : fnd l (l.getD i jbD).name = i := by
    by_cases e : fnd l (l.getD i jbD).name = i
    · exact e
    · have := (fnd_first hi).1 e
      rw [h1] at this; cases this
  have h3 : memS (nmJ l) (l.getD i jbD).name = true := by
    refine memS_iff.2 (List.mem_map.2 ⟨l.getD i jbD, ?_, rfl⟩)
    rw [List.getD_eq_getElem?_getD, List.getElem?_eq_getElem hi]
    exact List.getElem_mem hi
  rw [← (fnd_is.1 h3).1, h2]
end Go.Proofs.YtlhgddgoblliaaaGreatDoor
