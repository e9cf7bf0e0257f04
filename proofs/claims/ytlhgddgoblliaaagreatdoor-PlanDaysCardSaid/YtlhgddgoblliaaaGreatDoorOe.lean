/- Chapter 9: plans: the program's check and value. -/
import Derived.Test.YtlhgddgoblliaaaGreatDoorOd
set_option linter.unusedVariables false
set_option linter.unusedSimpArgs false
namespace Go.Proofs.YtlhgddgoblliaaaGreatDoor
open Go.RowKit Go.Sym

/-! The first element that a test takes. -/
def idxF {α : Type} (p : α → Bool) (l : List α) : Int := if l.any p = true then (l.findIdx p : Int) else -1
theorem idxF_hit {α : Type} {p : α → Bool} {l : List α} {d : α} {k : Nat} (hk : k < l.length) (h : p (l.getD k d) = true) (hb : ∀ i : Nat, i < k → p (l.getD i d) = false) : idxF p l = k := by
  have e : ∀ i (hi : i < l.length), l.getD i d = l[i] := fun i hi => by rw [List.getD_eq_getElem?_getD, List.getElem?_eq_getElem hi]; rfl
  rw [e k hk] at h
  have ha : l.any p = true := List.any_eq_true.2 ⟨_, List.getElem_mem hk, h⟩
  have hf : l.findIdx p = k := by
    refine (List.findIdx_eq hk).2 ⟨h, fun j hj => ?_⟩
    have := hb j hj
    rwa [e j (by omega)] at this
  unfold idxF
  rw [if_pos ha, hf]
theorem idxF_none {α : Type} {p : α → Bool} {l : List α} {d : α} (hb : ∀ i : Nat, i < l.length → p (l.getD i d) = false) : idxF p l = -1 := by
  have ha : ¬ l.any p = true := by
    rw [Bool.not_eq_true, List.any_eq_false]
    intro x hx
    obtain ⟨i, hi, rfl⟩ := List.mem_iff_getElem.1 hx
    have := hb i hi
    rw [List.getD_eq_getElem?_getD, List.getElem?_eq_getElem hi] at this
    simpa using this
  unfold idxF
  rw [if_neg ha]
theorem idxF_sign {α : Type} (p : α → Bool) (l : List α) : decide (idxF p l ≥ 0) = l.any p := by
  unfold idxF
  cases h : l.any p with
  | true => rw [if_pos rfl]; exact decide_eq_true (by omega)
  | false => rw [if_neg (by simp)]; rfl
end Go.Proofs.YtlhgddgoblliaaaGreatDoor
