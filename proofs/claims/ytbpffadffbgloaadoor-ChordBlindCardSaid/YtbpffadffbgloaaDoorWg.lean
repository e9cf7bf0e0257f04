/- The reference's Both; the blind periods are those of the program. -/
import Derived.Test.YtbpffadffbgloaaDoorWf
set_option linter.unusedVariables false
set_option linter.unusedSimpArgs false
namespace Go.Proofs.YtbpffadffbgloaaDoor
open Go.RowKit Go.Sym

def divAll (b a d e n : Int) : Bool := decide (b.tmod n = 0) && decide (a.tmod n = 0) && decide (d.tmod n = 0) && decide (e.tmod n = 0)
def refL (b a d e : Int) (k : Nat) : List Int := ((List.range k).map fun (j : Nat) => (j : Int) + 2).filter (divAll b a d e)
theorem refL_succ (b a d e : Int) (k : Nat) : refL b a d e (k + 1) = refL b a d e k ++ (if divAll b a d e ((k : Int) + 2) then [(k : Int) + 2] else []) := by
  unfold refL
  rw [List.range_succ, List.map_append, List.filter_append]
  cases h : divAll b a d e ((k : Int) + 2) <;> simp [h]
theorem refL_len (b a d e : Int) (k : Nat) : (refL b a d e k).length ≤ k := by
  have := List.length_filter_le (divAll b a d e) ((List.range k).map fun (j : Nat) => (j : Int) + 2)
  simpa [refL] using this
theorem tmod_small {m n : Int} (m0 : 0 ≤ m) (n0 : 2 ≤ n) : 0 ≤ m.tmod n ∧ m.tmod n < n := by
  rw [Int.tmod_eq_emod_of_nonneg m0]
  exact ⟨Int.emod_nonneg _ (by omega), Int.emod_lt_of_pos _ (by omega)⟩
theorem minL_le : ∀ (l : List Int) (m x : Int), x ∈ l → l.foldl (fun m x => if x < m then x else m) m ≤ x
  | [], _, _, h => by cases h
  | y :: l, m, x, h => by
    have low : ∀ (l : List Int) (m : Int), l.foldl (fun m x => if x < m then x else m) m ≤ m := by
      intro l
      induction l with
      | nil => intro m; exact Int.le_refl _
      | cons y l ih => intro m; rw [List.foldl_cons]; exact Int.le_trans (ih _) (by split <;> omega)
    rw [List.foldl_cons]
    rcases List.mem_cons.1 h with rfl | h
    · exact Int.le_trans (low _ _) (by split <;> omega)
    · exact minL_le l _ x h
theorem minL_mem : ∀ (l : List Int) (m : Int), l.foldl (fun m x => if x < m then x else m) m = m ∨ l.foldl (fun m x => if x < m then x else m) m ∈ l
  | [], _ => .inl rfl
  | y :: l, m => by
    rw [List.foldl_cons]
    rcases minL_mem l (if y < m then y else m) with h | h
    · rw [h]
      split
      · exact .inr List.mem_cons_self
      · exact .inl rfl
    · exact .inr (List.mem_cons_of_mem _ h)
theorem minL_in {l : List Int} (h : 0 < l.length) : minL l ∈ l := by
  unfold minL
  rcases minL_mem l (l.getD 0 0) with e | e
  · rw [e, List.getD_eq_getElem?_getD, List.getElem?_eq_getElem h]; exact List.getElem_mem h
  · exact e
theorem comL_more {l : List Int} {k : Nat} (h : ∀ j : Nat, k ≤ j → l.any (divN ((j : Int) + 2)) = true) : ∀ m : Nat, comL l (k + m) = comL l k
  | 0 => rfl
  | m + 1 => by
    rw [← Nat.add_assoc, comL_succ, if_pos (h (k + m) (by omega)), List.append_nil, comL_more h m]
theorem commonS_all {l : List Int} (h : 0 < l.length) (hv : ∀ x ∈ l, 1 ≤ x ∧ x ≤ 32) : commonS l = comL l 31 := by
  have hm := hv _ (minL_in h)
  have hk : ∃ m, 31 = (minL l - 1).toNat + m := ⟨31 - (minL l - 1).toNat, by omega⟩
  obtain ⟨m, hm2⟩ := hk
  have he : comL l 31 = comL l ((minL l - 1).toNat + m) := by rw [← hm2]
  unfold commonS
  rw [he, comL_more (fun j hj => ?_) m]
  rw [List.any_eq_true]
  refine ⟨minL l, minL_in h, ?_⟩
  unfold divN
  rw [Int.tmod_eq_emod_of_nonneg (by omega), Int.emod_eq_of_lt (by omega) (by omega)]
  exact decide_eq_true (by omega)
theorem com_ref4 (b a d e : Int) (k : Nat) : comL [b, a, d, e] k = refL b a d e k := by
  unfold comL refL
  congr 1
  funext n
  simp [divN, divAll, Bool.and_assoc]
theorem com_ref2 (b a : Int) (k : Nat) : comL [b, a] k = refL b a b a k := by
  unfold comL refL
  congr 1
  funext n
  simp only [List.any_cons, List.any_nil, divN, divAll]
  by_cases h1 : b.tmod n = 0 <;> by_cases h2 : a.tmod n = 0 <;> simp [h1, h2]
theorem blindS_ref {b a : Int} (hc : chordS b a = 0) : blindS b a = refL b a b a 31 := by
  have hco := chordS_ok hc
  unfold blindS
  rw [if_pos hc, commonS_all (by simp) (by intro x hx; simp only [List.mem_cons, List.not_mem_nil, or_false] at hx; omega), com_ref2]
theorem bothS_ref {b a d e : Int} (hc : bothE b a d e = 0) : bothS b a d e = refL b a d e 31 := by
  have hz2 : chordS b a = 0 ∧ chordS d e = 0 := by
    unfold bothE at hc
    rw [firstS_eq] at hc
    exact ⟨hc _ (by simp), hc _ (by simp)⟩
  have hco := chordS_ok hz2.1
  have hde := chordS_ok hz2.2
  unfold bothS
  rw [if_pos hc]
  by_cases h : b = d ∧ a = e
  · obtain ⟨rfl, rfl⟩ := h
    rw [if_pos ⟨rfl, rfl⟩, commonS_all (by simp) (by intro x hx; simp only [List.mem_cons, List.not_mem_nil, or_false] at hx; omega), com_ref2]
  · rw [if_neg h, commonS_all (by simp) (by intro x hx; simp only [List.mem_cons, List.not_mem_nil, or_false] at hx; omega), com_ref4]

end Go.Proofs.YtbpffadffbgloaaDoor
