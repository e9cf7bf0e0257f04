/- What the sum of two traces is. -/
import Derived.Test.YtbpffadffbgloaaGreatDoorM
set_option linter.unusedVariables false
set_option linter.unusedSimpArgs false
namespace Go.Proofs.YtbpffadffbgloaaGreatDoor
open Go.RowKit Go.Shelf

theorem blk4 {W : World} {g : Nat} {t : TypeId} {a b c d : Value} (h : Blk W g t #[a, b, c, d]) (x y z u : Value) : Blk ((((W.setCell ⟨g, 0, none⟩ x).setCell ⟨g, 1, none⟩ y).setCell ⟨g, 2, none⟩ z).setCell ⟨g, 3, none⟩ u) g t #[x, y, z, u] := by
  simpa using (((h.set_ 0 x).set_ 1 y).set_ 2 z).set_ 3 u
theorem far4 {W : World} {g g' : Nat} {t : TypeId} {cs : Array Value} (h : Blk W g' t cs) (hne : g' ≠ g) (x y z u : Value) : Blk ((((W.setCell ⟨g, 0, none⟩ x).setCell ⟨g, 1, none⟩ y).setCell ⟨g, 2, none⟩ z).setCell ⟨g, 3, none⟩ u) g' t cs :=
  (((h.far hne x).far hne y).far hne z).far hne u

/-- The sums at all places, with what is known. -/
def sumsS (s t : Tr) : List (Int × Bool) := (List.range s.vals.length).map fun i => (s.vals[i]?.getD 0 + t.vals[i]?.getD 0, (knS s.vals.length s.holes)[i]?.getD false && (knS t.vals.length t.holes)[i]?.getD false)
def addAll (l : List (Int × Bool)) : List Int × List (Int × Int) := l.foldl addS ([], [])
def SumS (s t : Tr) : Tr × Int :=
  let e := firstS [traceS s, traceS t, whenS (!alikeS s t) 2]
  if e ≠ 0 then (⟨0, [], []⟩, e) else if (sumsS s t).any badS then (⟨0, [], []⟩, 4) else (⟨s.first, (addAll (sumsS s t)).1, (addAll (sumsS s t)).2⟩, 0)

theorem sumsS_len (s t : Tr) : (sumsS s t).length = s.vals.length := by simp [sumsS]
theorem addAll_snoc (l : List (Int × Bool)) (x : Int × Bool) : addAll (l ++ [x]) = addS (addAll l) x := by simp [addAll]
theorem addAll_len (l : List (Int × Bool)) : (addAll l).1.length = l.length ∧ (addAll l).2.length ≤ l.length := by
  suffices h : ∀ m : List (Int × Bool), (addAll m.reverse).1.length = m.length ∧ (addAll m.reverse).2.length ≤ m.length by
    have := h l.reverse
    rwa [List.reverse_reverse, List.length_reverse] at this
  intro m
  induction m with
  | nil => exact ⟨rfl, Nat.le_refl _⟩
  | cons q m ih =>
    rw [List.reverse_cons, addAll_snoc]
    refine ⟨by simp [addS, ih.1], ?_⟩
    unfold addS
    dsimp only
    split
    · simp; omega
    · have := holesAdd_len (addAll m.reverse).2 (addAll m.reverse).1.length
      simp; omega
theorem sumsS_at (s t : Tr) (k : Nat) (h : k < s.vals.length) (h' : k < t.vals.length) : (sumsS s t)[k]? = some (s.vals[k] + t.vals[k], (knS s.vals.length s.holes)[k]?.getD false && (knS t.vals.length t.holes)[k]?.getD false) := by
  simp [sumsS, h, h']

end Go.Proofs.YtbpffadffbgloaaGreatDoor
