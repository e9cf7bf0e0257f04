/- Chapter 9: offices: what they are, and the program's check. -/
import Derived.Test.YtlhgddgoblliaaaGreatDoorPa
import Derived.Test.YtlhgddgoblliaaaGreatDoorKa
set_option linter.unusedVariables false
set_option linter.unusedSimpArgs false
namespace Go.Proofs.YtlhgddgoblliaaaGreatDoor
open Go.RowKit Go.Sym

structure Sec where
  name : ByteArray
  dl : Int
  wk : Int
  bl : Int
  vl : Int
structure Shf where
  day : Int
  hr : Int
  bl : Int
  rt : Int
def secD : Sec := ⟨⟨#[]⟩, 0, 0, 0, 0⟩
def shfD : Shf := ⟨0, 0, 0, 0⟩
theorem firstR_drop (f : Nat → Int) (n k : Nat) (h : k < n) : firstS (((List.range n).map f).drop k) = if f k = 0 then firstS (((List.range n).map f).drop (k + 1)) else f k := by
  rw [List.drop_eq_getElem_cons (by simpa using h)]
  simp [firstS]
theorem firstR_all (f : Nat → Int) (n : Nat) : firstS (((List.range n).map f).drop n) = 0 := by
  rw [List.drop_of_length_le (by simp)]; rfl
theorem firstR_zero {f : Nat → Int} {n : Nat} (h : firstS ((List.range n).map f) = 0) : ∀ k, k < n → f k = 0 := by
  induction n with
  | zero => intro k hk; omega
  | succ n ih =>
    rw [List.range_succ, List.map_append] at h
    have key : ∀ (l : List Int) (x : Int), firstS (l ++ [x]) = 0 → firstS l = 0 ∧ x = 0 := by
      intro l x
      induction l with
      | nil => intro h; exact ⟨rfl, ((firstS_cons _ _).1 h).1⟩
      | cons a l ihl =>
        intro h
        have h1 := (firstS_cons _ _).1 h
        have h2 := ihl h1.2
        exact ⟨(firstS_cons _ _).2 ⟨h1.1, h2.1⟩, h2.2⟩
    have h2 := key _ _ h
    intro k hk
    rcases Nat.lt_or_ge k n with hlt | hge
    · exact ih h2.1 k hlt
    · obtain rfl : k = n := by omega
      exact h2.2

end Go.Proofs.YtlhgddgoblliaaaGreatDoor
