/- Contents by lists of data. No program in sight. -/
import Derived.Test.YtoopgdchiljmiaaGreatDoorSB
set_option linter.unusedVariables false
set_option linter.unusedSimpArgs false
namespace Go.Sym
open Go.RowKit

/-- The elements of a list, each of sz cells. -/
def genL {α : Type} (f : α → List Value) (d : α) (sz : Nat) (l : List α) : Cont := .gen l.length sz fun k => f (l.getD k d)
theorem gen_congr {n sz : Nat} {g g' : Nat → List Value} (h : ∀ k, k < n → g k = g' k) : (Cont.gen n sz g).cells = (Cont.gen n sz g').cells := by
  simp only [Cont.cells]
  refine List.map_congr_left fun q hq => ?_
  have hq := List.mem_range.1 hq
  rw [h (q / sz) (Nat.div_lt_of_lt_mul (by rw [Nat.mul_comm]; exact hq))]
theorem genL_cells {α : Type} {f : α → List Value} {d : α} {sz : Nat} (hf : ∀ x, (f x).length = sz) (l : List α) : (genL f d sz l).cells = (l.flatMap f).map AV.lit := by
  have hlen : ∀ l : List α, (l.flatMap f).length = l.length * sz := by
    intro l
    induction l with
    | nil => simp
    | cons a l ih => simp [List.flatMap_cons, ih, hf, Nat.add_mul, Nat.add_comm]
  rcases Nat.eq_zero_or_pos sz with rfl | hsz
  · have : l.flatMap f = [] := List.eq_nil_of_length_eq_zero (by rw [hlen]; simp)
    rw [this]; simp [genL, Cont.cells]
  have key : ∀ (l : List α) (q : Nat), q < l.length * sz → (l.flatMap f)[q]? = (f (l.getD (q / sz) d))[q % sz]? := by
    intro l
    induction l with
    | nil => intro q h; simp at h
    | cons a l ih =>
      intro q h
      rw [List.flatMap_cons]
      by_cases hq : q < sz
      · rw [List.getElem?_append_left (by rw [hf]; exact hq), Nat.div_eq_of_lt hq, Nat.mod_eq_of_lt hq]; simp
      · have e1 : q / sz = (q - sz) / sz + 1 := by rw [Nat.div_eq_sub_div hsz (by omega)]
        have e2 : q % sz = (q - sz) % sz := Nat.mod_eq_sub_mod (by omega)
        rw [List.getElem?_append_right (by rw [hf]; omega), hf, ih (q - sz) (by simp [Nat.add_mul] at h; omega), e1, e2]; simp
  simp only [genL, Cont.cells]
  refine List.ext_getElem? fun q => ?_
  by_cases hq : q < l.length * sz
  · simp only [List.getElem?_map, List.getElem?_range hq, Option.map_some, key l q hq]
    have h2 : q % sz < (f (l.getD (q / sz) d)).length := by rw [hf]; exact Nat.mod_lt _ hsz
    generalize f (l.getD (q / sz) d) = m at h2 ⊢
    simp [List.getD, h2]
  · rw [List.getElem?_eq_none (by simp; omega), List.getElem?_eq_none (by simp [hlen]; omega)]
theorem genL_nil {α : Type} (f : α → List Value) (d : α) (sz : Nat) : (genL f d sz []).cells = [] := by simp [genL, Cont.cells]
theorem genL_snoc {α : Type} {f : α → List Value} {d : α} {sz : Nat} (hf : ∀ x, (f x).length = sz) (l : List α) (x : α) : (genL f d sz (l ++ [x])).cells = (genL f d sz l).cells ++ (f x).map AV.lit := by
  rw [genL_cells hf, genL_cells hf]; simp
theorem genL_append {α : Type} {f : α → List Value} {d : α} {sz : Nat} (hf : ∀ x, (f x).length = sz) (l m : List α) : (genL f d sz (l ++ m)).cells = (genL f d sz l).cells ++ (genL f d sz m).cells := by
  rw [genL_cells hf, genL_cells hf, genL_cells hf]; simp
theorem genL_set {α : Type} {f : α → List Value} {d : α} {sz : Nat} (l : List α) (e j : Nat) (vs : List Value) (x : α) (he : e < l.length) (h : lay (f (l.getD e d)) j vs = f x) :
    (genL f d sz (l.set e x)).cells = (Cont.gen l.length sz fun q => if q = e then lay (f (l.getD e d)) j vs else f (l.getD q d)).cells := by
  unfold genL
  rw [List.length_set]
  refine gen_congr fun k hk => ?_
  by_cases hke : k = e
  · subst hke; rw [if_pos rfl, h]; simp [hk]
  · rw [if_neg hke]; simp [List.getElem?_set, Ne.symm hke]

end Go.Sym
