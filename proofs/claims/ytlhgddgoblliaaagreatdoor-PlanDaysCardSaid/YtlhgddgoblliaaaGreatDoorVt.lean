/- Chapter 9: the check of a sequence, the reference's. -/
import Derived.Test.YtlhgddgoblliaaaGreatDoorVs
set_option linter.unusedVariables false
set_option linter.unusedSimpArgs false
namespace Go.Proofs.YtlhgddgoblliaaaGreatDoor
open Go.RowKit Go.Sym

/-- The names that jobs need are jobs'. -/
def Knw (l : List Jb) : Prop := ∀ i, i < l.length → ∀ q, q < lnJ l i → fnd l (afJ l i q) = ixV (nmJ l) (afJ l i q) ∧ 0 ≤ fnd l (afJ l i q) ∧ fnd l (afJ l i q) < l.length
theorem knw_of {l : List Jb} (h : jobsE l = 0) : Knw l := fun i hi q hq => by
  unfold jobsE at h
  split at h
  · cases h
  · have h4 := (firstS_cons _ _).1 h
    have h5 := (firstS_cons _ _).1 h4.2
    have h6 := firstR_zero h5.1 i hi
    have h7 : afE (nmJ l) (l.getD i jbD).af = 0 := h6
    have h8 := firstR_zero h7 q hq
    have h9 := ((firstS_cons _ _).1 h8).1
    have h10 := (whenS_zero (by decide)).1 h9
    have : memS (nmJ l) (afJ l i q) = true := by
      cases e : memS (nmJ l) (afJ l i q) with
      | true => rfl
      | false => rw [show (l.getD i jbD).af.getD q ByteArray.empty = afJ l i q from rfl, e] at h10; cases h10
    exact (fnd_is (l := l) (s := afJ l i q)).1 this
theorem any_getD {α : Type} {p : α → Bool} {l : List α} {d : α} (h : ∀ i, i < l.length → p (l.getD i d) = false) : l.any p = false := by
  rw [List.any_eq_false]
  intro x hx
  obtain ⟨i, hi, rfl⟩ := List.getElem_of_mem hx
  have := h i hi
  rw [List.getD_eq_getElem?_getD, List.getElem?_eq_getElem hi] at this
  have this : p l[i] = false := this
  rw [this]; decide
end Go.Proofs.YtlhgddgoblliaaaGreatDoor
