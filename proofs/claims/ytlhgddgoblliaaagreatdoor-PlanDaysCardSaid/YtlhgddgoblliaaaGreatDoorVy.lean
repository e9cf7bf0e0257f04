/- PlanSequences: the law as a run. -/
import Derived.Test.YtlhgddgoblliaaaGreatDoorVx
import Derived.Test.YtlhgddgoblliaaaGreatDoorPx
set_option linter.unusedVariables false
set_option linter.unusedSimpArgs false
namespace Go.Proofs.YtlhgddgoblliaaaGreatDoor
open Go.RowKit Go.Sym

theorem shJ_ok {l : List Jb} (h : shJ l = true) : l.length ≤ 1000 ∧ (∀ k, lnJ l k ≤ 1000) ∧ Szs l := by
  unfold shJ at h
  rw [Bool.and_eq_true, Bool.or_eq_true, List.all_eq_true] at h
  obtain ⟨h1, h2⟩ := h
  have h2 : (l.length : Int) ≤ 4 ∨ (l.length : Int) = 9 := h2.imp of_decide_eq_true of_decide_eq_true
  have hat : ∀ k, k < l.length → okJ (l.getD k jbD) = true := fun k hk => by
    rw [List.getD_eq_getElem?_getD, List.getElem?_eq_getElem hk]
    exact h1 _ (List.getElem_mem hk)
  have hno : ∀ k, ¬ k < l.length → l.getD k jbD = jbD := fun k hk => by
    rw [List.getD_eq_getElem?_getD, List.getElem?_eq_none (by omega)]; rfl
  refine ⟨by omega, fun k => ?_, ⟨fun k => ?_⟩⟩
  · by_cases hk : k < l.length
    · have := hat k hk
      unfold okJ at this
      simp only [Bool.and_eq_true, decide_eq_true_eq] at this
      show (l.getD k jbD).af.length ≤ 1000
      omega
    · show (l.getD k jbD).af.length ≤ 1000
      rw [hno k hk]; exact Nat.zero_le _
  · by_cases hk : k < l.length
    · have := hat k hk
      unfold okJ at this
      simp only [Bool.and_eq_true, decide_eq_true_eq] at this
      omega
    · rw [hno k hk]; exact Nat.zero_le _
end Go.Proofs.YtlhgddgoblliaaaGreatDoor
