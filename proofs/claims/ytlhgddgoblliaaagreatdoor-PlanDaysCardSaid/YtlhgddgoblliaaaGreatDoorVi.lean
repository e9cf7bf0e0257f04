/- Chapter 9: the longest chain, the reference's. -/
import Derived.Test.YtlhgddgoblliaaaGreatDoorVg
set_option linter.unusedVariables false
set_option linter.unusedSimpArgs false
namespace Go.Proofs.YtlhgddgoblliaaaGreatDoor
open Go.RowKit Go.Sym

def toI (L : List Nat) : List Int := L.map fun x : Nat => (x : Int)
theorem toI_len (L : List Nat) : (toI L).length = L.length := by simp [toI]
theorem toI_getD (L : List Nat) (k : Nat) : (toI L).getD k 0 = (L.getD k 0 : Nat) := by
  unfold toI
  rw [List.getD_eq_getElem?_getD, List.getD_eq_getElem?_getD, List.getElem?_map]
  cases L[k]? <;> rfl
theorem catI_head (k : Int) (l : List Int) : (Cont.ints .i64 (k :: l)).cells = (catC (Cont.exp [i64 k]) (Cont.ints .i64 l)).cells := by rw [catC_cells]; simp [Cont.cells]
abbrev chG (l : List Jb) (i : Nat) : List Nat := cF l.length (edJ l) l.length i
/-- The best of the chains that the first jobs begin, of those that a job lets. -/
def bsJ (l : List Jb) (p : Nat → Bool) (k : Nat) : List Nat := bstC (chG l) p k
theorem mF_le {n : Nat} {E : Nat → Nat → Bool} : ∀ f i, mF n E f i ≤ f
  | 0, _ => Nat.le_refl _
  | f + 1, i => by
    have key : ∀ k, mxF (mF n E f) (E i) k ≤ f := by
      intro k
      induction k with
      | zero => exact Nat.zero_le _
      | succ k ih =>
        simp only [mxF]
        split
        · have := mF_le (n := n) (E := E) f k; omega
        · exact ih
    have := key n
    show 1 + _ ≤ _
    omega
theorem chG_len (l : List Jb) (i : Nat) : (chG l i).length ≤ l.length := by rw [cF_len]; exact mF_le _ _
theorem bsJ_len (l : List Jb) (p : Nat → Bool) : ∀ k, (bsJ l p k).length ≤ l.length
  | 0 => Nat.zero_le _
  | k + 1 => by
    unfold bsJ
    simp only [bstC]
    split
    · split
      · exact chG_len l k
      · exact bsJ_len l p k
    · exact bsJ_len l p k
/-! The best of all. -/
def chB (l : List Jb) : List Nat := bsJ l (fun _ => true) l.length
def nmsJ (l : List Jb) (L : List Nat) : List ByteArray := L.map fun i => (l.getD i jbD).name
theorem nmsJ_len (l : List Jb) (L : List Nat) : (nmsJ l L).length = L.length := by simp [nmsJ]
def chS (l : List Jb) : List ByteArray := nmsJ l (chB l)
theorem strC_snoc (L : List ByteArray) (s : ByteArray) : (strC (L ++ [s])).cells = (catC (strC L) (Cont.exp [Sb s])).cells := by
  rw [catC_cells]
  refine List.ext_getElem? fun q => ?_
  simp only [strC, Cont.cells, List.length_append, List.length_singleton, Nat.mul_one]
  by_cases hq : q < L.length
  · rw [List.getElem?_append_left (by simp; exact hq), List.getElem?_map, List.getElem?_map, List.getElem?_range hq, List.getElem?_range (by omega)]
    simp only [Option.map_some, Nat.div_one, Nat.mod_one]
    rw [List.getD_eq_getElem?_getD (l := L ++ [s]), List.getElem?_append_left hq, ← List.getD_eq_getElem?_getD]
  · rw [List.getElem?_append_right (by simp; omega), List.length_map, List.length_range, List.getElem?_map]
    by_cases hq2 : q = L.length
    · subst hq2
      rw [List.getElem?_range (by omega)]
      simp [List.getD, Nat.mod_one]
    · rw [List.getElem?_eq_none (by simp; omega), List.getElem?_eq_none (by simp; omega)]
      rfl
theorem strC_one (s : ByteArray) : (strC [s]).cells = (Cont.exp [Sb s]).cells := by
  have h := strC_snoc [] s
  rw [List.nil_append] at h
  rw [h, catC_cells]
  rfl
theorem bstC_mem {g : Nat → List Nat} {p : Nat → Bool} : ∀ {k : Nat}, ∀ x ∈ bstC g p k, ∃ j, j < k ∧ x ∈ g j
  | 0, x, hx => by cases hx
  | k + 1, x, hx => by
    simp only [bstC] at hx
    have old : x ∈ bstC g p k → ∃ j, j < k + 1 ∧ x ∈ g j := fun h => by
      obtain ⟨j, h1, h2⟩ := bstC_mem x h
      exact ⟨j, by omega, h2⟩
    split at hx
    · split at hx
      · exact ⟨k, by omega, hx⟩
      · exact old hx
    · exact old hx
theorem cF_in {n : Nat} {E : Nat → Nat → Bool} : ∀ (f i : Nat), i < n → ∀ x ∈ cF n E f i, x < n
  | 0, _, _, x, hx => by cases hx
  | f + 1, i, hi, x, hx => by
    rcases List.mem_cons.1 hx with rfl | hx
    · exact hi
    · obtain ⟨j, h1, h2⟩ := bstC_mem x hx
      exact cF_in f j h1 x h2
theorem chB_in (l : List Jb) : ∀ x ∈ chB l, x < l.length := fun x hx => by
  obtain ⟨j, h1, h2⟩ := bstC_mem x hx
  exact cF_in _ j h1 x h2
theorem chB_pos {l : List Jb} {rk : Nat → Nat} (hrk : Ranked l.length (edJ l) rk) : (chB l).length = 0 ↔ l.length = 0 := by
  constructor
  · intro h
    rcases Nat.eq_zero_or_pos l.length with h0 | h0
    · exact h0
    · have h1 := bstC_len (chG l) (fun _ => true) l.length
      have h2 := mxF_ge (f := fun j => (chG l j).length) (p := fun _ => true) (j := 0) rfl (k := l.length) h0
      have h3 : (chG l 0).length = mF l.length (edJ l) l.length 0 := cF_len _ _
      have h4 := mF_pos hrk h0
      have h2 : (chG l 0).length ≤ mxF (fun j => (chG l j).length) (fun _ => true) l.length := h2
      have h1 : (chB l).length = _ := h1
      omega
  · intro h
    have := bsJ_len l (fun _ => true) l.length
    have this : (chB l).length ≤ l.length := this
    omega
end Go.Proofs.YtlhgddgoblliaaaGreatDoor
