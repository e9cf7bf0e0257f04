/- Helpers of the laws of chapter 3. -/
import Derived.Test.YtbpffadffbgloaaGreatDoorRj
import Derived.Test.YtbpffadffbgloaaGreatDoorRk
import Derived.Test.YtbpffadffbgloaaGreatDoorAw
set_option linter.unusedVariables false
set_option linter.unusedSimpArgs false
namespace Go.Proofs.YtbpffadffbgloaaGreatDoor
open Go.RowKit Go.Sym

theorem madeS_err {f : Int} {l : List (Int × Bool)} (h : (madeS f l).2 ≠ 0) : (madeS f l).1 = ⟨0, [], []⟩ := by
  unfold madeS at h ⊢
  split
  · rfl
  · rename_i h1; rw [if_neg h1] at h; exact absurd rfl h
theorem summedS_err {f : Int} {vs : List (Int × Bool)} {ws : List Int} {b a s : Int} (h : (summedS f vs ws b a s).2 ≠ 0) : (summedS f vs ws b a s).1 = ⟨0, [], []⟩ := by
  unfold summedS at h ⊢
  split
  · rfl
  · rename_i h1; rw [if_neg h1] at h; exact madeS_err h
/-- A result and its error, compared with themselves. -/
theorem oneB_self {T : Tr × Int} (h : T.2 ≠ 0 → T.1 = ⟨0, [], []⟩) : oneB T.1 T.2 T.2 T.1 = true := by
  unfold oneB
  by_cases h0 : T.2 = 0
  · rw [if_pos h0]; simp [sameB]
  · rw [if_neg h0, h h0]; simp [sameB]
theorem oneB_err {T : Tr × Int} {e : Int} {W : Tr} (h : T = (⟨0, [], []⟩, e)) (he : e ≠ 0) : oneB T.1 T.2 e W = true := by
  subst h
  unfold oneB
  rw [if_neg he]; simp [sameB]
theorem shortB_ok {t : Tr} (h : shortB t = true) : t.vals.length ≤ 4097 ∧ t.holes.length ≤ 12 := by
  simp only [shortB, Bool.and_eq_true, Bool.or_eq_true, decide_eq_true_eq] at h
  omega
theorem first2_zero {x y : Int} : firstS [x, y] = 0 ↔ x = 0 ∧ y = 0 := by
  rw [firstS_eq]; simp
theorem VersinesS_err {b a : Int} {t : Tr} (h : firstS [chordS b a, traceS t] ≠ 0) : VersinesS b a t = (⟨0, [], []⟩, firstS [chordS b a, traceS t]) := by
  unfold VersinesS; rw [if_pos h]
theorem VersinesS_ok {b a : Int} {t : Tr} (hc : chordS b a = 0) (ht : traceS t = 0) : VersinesS b a t = RVersinesS b a t := by
  have h1 := chordS_ok hc
  unfold VersinesS; rw [if_neg (by rw [hc, ht]; decide)]
  exact versines_same b a t h1.1.1 h1.2.1

theorem madeS_len (f : Int) (l : List (Int × Bool)) : (madeS f l).1.vals.length ≤ l.length ∧ (madeS f l).1.holes.length ≤ l.length := by
  unfold madeS
  split
  · simp
  · have := addAll_len l
    simp only
    omega
theorem summedS_len (f : Int) (vs : List (Int × Bool)) (ws : List Int) (b a s : Int) (hb : 0 ≤ b) (ha : 0 ≤ a) : (summedS f vs ws b a s).1.vals.length ≤ vs.length ∧ (summedS f vs ws b a s).1.holes.length ≤ vs.length := by
  unfold summedS
  split
  · simp
  · have := madeS_len (f + b) (summedL vs ws b a s)
    rw [summedL_len] at this
    omega
theorem RVersinesS_len (b a : Int) (t : Tr) (hb : 0 ≤ b) (ha : 0 ≤ a) : (RVersinesS b a t).1.vals.length ≤ t.vals.length ∧ (RVersinesS b a t).1.holes.length ≤ t.vals.length := by
  have := summedS_len t.first (valuesS t.vals t.holes) (versW b a) b a 1 hb ha
  rwa [valuesS_len] at this
theorem listedB_self (l : List Int) : listedB l 0 0 l = true := by simp [listedB]
theorem listedB_err {e : Int} (he : e ≠ 0) (m : List Int) : listedB [] e e m = true := by simp [listedB, he]

theorem spC_nil : (spC []).cells = [] := rfl
theorem intsC_nil : (Cont.ints .i64 []).cells = [] := rfl

def lawIn (t : Tr) : List (Nat × Chunk) := [(0, powC), (1, .ro t.vals.length 1 (.ints .i64 t.vals)), (2, .ro t.holes.length 2 (spC t.holes))]
theorem first3_zero {x y z : Int} : firstS [x, y, z] = 0 ↔ x = 0 ∧ y = 0 ∧ z = 0 := by
  rw [firstS_eq]; simp
theorem len_err {T : Tr × Int} {e : Int} (h : T = (⟨0, [], []⟩, e)) : T.1.vals.length = 0 ∧ T.1.holes.length = 0 := by rw [h]; exact ⟨rfl, rfl⟩

end Go.Proofs.YtbpffadffbgloaaGreatDoor
