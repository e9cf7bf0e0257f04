/- Sums whose weights are all there; values that are in range. No program in sight. -/
import Derived.Test.YtbpffadffbgloaaDoorTg
import Derived.Test.YtbpffadffbgloaaDoorRt
set_option linter.unusedVariables false
set_option linter.unusedSimpArgs false
namespace Go.Proofs.YtbpffadffbgloaaDoor

theorem summedL_at (vs : List (Int × Bool)) (ws : List Int) (before after step : Int) (i : Nat) (h : i < (summedL vs ws before after step).length) : (summedL vs ws before after step).getD i (0, false) = wsum vs ws step i := by
  rw [summedL_len] at h
  simp [summedL, h]
/-- A sum whose weights are all there. -/
theorem wsum_eq (vs : List (Int × Bool)) (ws : List Int) (step : Int) (q : Nat) (h : ∀ k : Nat, k < ws.length → ws.getD k 0 ≠ 0) :
    wsum vs ws step q = (Sg ws.length (fun k => ws.getD k 0 * (vs.getD ((q : Int) + (k : Int) * step).toNat (0, false)).1), Al ws.length (fun k => (vs.getD ((q : Int) + (k : Int) * step).toNat (0, false)).2)) := by
  have e : wsum vs ws step q = (List.range ws.length).foldl (fun s k => (s.1 + ws.getD k 0 * (vs.getD ((q : Int) + (k : Int) * step).toNat (0, false)).1, s.2 && (vs.getD ((q : Int) + (k : Int) * step).toNat (0, false)).2)) (0, true) := by
    unfold wsum
    refine foldl_mem_congr _ _ _ _ fun s k hk => ?_
    unfold wstep
    rw [if_neg (h k (List.mem_range.1 hk))]
  rw [e, fold_sum (fun k => ws.getD k 0) (fun k => vs.getD ((q : Int) + (k : Int) * step).toNat (0, false))]
  simp

theorem good_of {L : List (Int × Bool)} (h : ∀ i : Nat, i < L.length → (L.getD i (0, false)).2 = true → -1073741824 ≤ (L.getD i (0, false)).1 ∧ (L.getD i (0, false)).1 ≤ 1073741824) : L.any badS = false := by
  rw [List.any_eq_false]
  intro x hx
  obtain ⟨i, hi, rfl⟩ := List.mem_iff_getElem.1 hx
  have := h i hi
  simp only [List.getD_eq_getElem?_getD, List.getElem?_eq_getElem hi, Option.getD_some] at this
  unfold badS
  cases hk : L[i].2 with
  | false => simp
  | true =>
    have e : readingS L[i].1 = 0 := by unfold readingS; rw [withinS_eq]; exact this hk
    rw [e]; simp

end Go.Proofs.YtbpffadffbgloaaDoor
