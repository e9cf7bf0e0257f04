/- Chapter 5: guesses never descend, and are the marks' places at the sights' counts. No program in sight. -/
import Derived.Test.YtoopgdchiljmiaaGreatDoorEh
set_option linter.unusedVariables false
set_option linter.unusedSimpArgs false
namespace Go.Proofs.YtoopgdchiljmiaaGreatDoor
open Go.RowKit Go.Sym

theorem round_mono {x y d : Int} (hx : 0 ≤ x) (h : x ≤ y) (hd : 0 < d) : roundS x d ≤ roundS y d := by
  unfold roundS
  rw [Int.tdiv_eq_ediv_of_nonneg (by omega), Int.tdiv_eq_ediv_of_nonneg (by omega)]
  exact Int.ediv_le_ediv (by omega) (by omega)
theorem round_whole {p d : Int} (hp : 0 ≤ p) (hd : 0 < d) : roundS (d * p) d = p := by
  have h0 := Int.mul_nonneg (Int.le_of_lt hd) hp
  unfold roundS
  rw [Int.tdiv_eq_ediv_of_nonneg (by omega), show 2 * (d * p) + d = d + (2 * d) * p by rw [Int.mul_assoc]; omega, Int.add_mul_ediv_left _ _ (by omega), Int.ediv_eq_zero_of_lt (by omega) (by omega)]
  omega
theorem guess_chain {m s : List Th} {l : List (Int × Int)} (n : Int) : ∀ k, k ≤ l.length → (∀ j, j < k → cnt s (prAt l j) < n) → guessS m s n l (-1, -1) = guessS m s n (l.drop k) (lastPr l k)
  | 0, _, _ => rfl
  | k + 1, hk, hj => by
    rw [guess_chain n k (by omega) fun j hj' => hj j (by omega), guess_next (by omega) (hj k (by omega))]
    rfl
theorem step_start {m s : List Th} {l : List (Int × Int)} (h : Good m s l) {n : Int} {i j : Nat} (hij : i < j) (hj : j < l.length) (hn : n = cnt s (prAt l i)) : stepS m s n (prAt l i) (prAt l j) = plc m (prAt l i) := by
  have c5 := h.up i j hij hj
  unfold stepS
  rw [show n - cnt s (prAt l i) = 0 by omega, Int.zero_mul, round_zero (by omega)]
  omega
theorem guess_at {m s : List Th} {l : List (Int × Int)} (h : Good m s l) {n : Int} {k : Nat} (hk : k < l.length) (hn : cnt s (prAt l k) ≤ n) (hn2 : k + 1 < l.length → n < cnt s (prAt l (k + 1))) :
    guessS m s n l (-1, -1) = if k + 1 = l.length then plc m (prAt l k) + n - cnt s (prAt l k) else stepS m s n (prAt l k) (prAt l (k + 1)) := by
  have hj : ∀ j, j < k → cnt s (prAt l j) < n := fun j hj => by have := h.up j k hj hk; omega
  rw [guess_chain n k (by omega) hj]
  by_cases e : k + 1 = l.length
  · rw [if_pos e]
    exact guess_last e hn
  · rw [if_neg e]
    by_cases h0 : k = 0 ∧ n = cnt s (prAt l k)
    · obtain ⟨rfl, h1⟩ := h0
      rw [step_start h (by omega) (by omega) h1]
      show guessS m s n l (-1, -1) = _
      rw [guess_first hk (by omega)]
      omega
    · refine guess_mid h (by omega) hn (hn2 (by omega)) fun ha => ?_
      have : k = 0 := by
        rcases k with _ | k
        · rfl
        · exact absurd ha (lastPr_not h (by omega))
      omega
theorem guess_pos {m s : List Th} {l : List (Int × Int)} (h : Good m s l) {n : Int} : ∀ (r j : Nat), j + r = l.length → j < l.length → cnt s (prAt l j) ≤ n → ∃ k, k < l.length ∧ cnt s (prAt l k) ≤ n ∧ (k + 1 < l.length → n < cnt s (prAt l (k + 1)))
  | 0, j, e, hj, _ => absurd hj (by omega)
  | r + 1, j, e, hj, hn => by
    by_cases hc : j + 1 < l.length ∧ cnt s (prAt l (j + 1)) ≤ n
    · exact guess_pos h r (j + 1) (by omega) hc.1 hc.2
    · exact ⟨j, hj, hn, fun h1 => by omega⟩
/-- The guess of a sight's count is its mark's place. -/
theorem guess_cnt {m s : List Th} {l : List (Int × Int)} (h : Good m s l) {k : Nat} (hk : k < l.length) : guessS m s (cnt s (prAt l k)) l (-1, -1) = plc m (prAt l k) := by
  rw [guess_at h hk (Int.le_refl _) (fun h1 => h.up k (k + 1) (by omega) h1)]
  split
  · omega
  · exact step_start h (by omega) (by omega) rfl
theorem step_mono {m s : List Th} {l : List (Int × Int)} (h : Good m s l) {n n' : Int} {k : Nat} (hk : k + 1 < l.length) (hn : cnt s (prAt l k) ≤ n) (hnn : n ≤ n') : stepS m s n (prAt l k) (prAt l (k + 1)) ≤ stepS m s n' (prAt l k) (prAt l (k + 1)) := by
  have c5 := h.up k (k + 1) (by omega) hk
  have c6 := h.upm k (k + 1) (by omega) hk
  unfold stepS
  have h1 : (n - cnt s (prAt l k)) * (plc m (prAt l (k + 1)) - plc m (prAt l k)) ≤ (n' - cnt s (prAt l k)) * (plc m (prAt l (k + 1)) - plc m (prAt l k)) := Int.mul_le_mul_of_nonneg_right (by omega) (by omega)
  have h2 := Int.mul_nonneg (show 0 ≤ n - cnt s (prAt l k) by omega) (show 0 ≤ plc m (prAt l (k + 1)) - plc m (prAt l k) by omega)
  have h3 := round_mono h2 h1 (show 0 < cnt s (prAt l (k + 1)) - cnt s (prAt l k) by omega)
  omega
theorem step_end {m s : List Th} {l : List (Int × Int)} (h : Good m s l) {k : Nat} (hk : k + 1 < l.length) : stepS m s (cnt s (prAt l (k + 1))) (prAt l k) (prAt l (k + 1)) = plc m (prAt l (k + 1)) := by
  have c5 := h.up k (k + 1) (by omega) hk
  have c6 := h.upm k (k + 1) (by omega) hk
  unfold stepS
  rw [round_whole (by omega) (by omega)]
  omega
/-- From a count to the next one. -/
theorem guess_step {m s : List Th} {l : List (Int × Int)} (h : Good m s l) (h0 : 0 < l.length) (n : Int) : guessS m s n l (-1, -1) ≤ guessS m s (n + 1) l (-1, -1) ∧
    ((n + 1 ≤ cnt s (prAt l 0) ∨ cnt s (prAt l (l.length - 1)) ≤ n) → guessS m s (n + 1) l (-1, -1) = guessS m s n l (-1, -1) + 1) := by
  by_cases hb : n + 1 ≤ cnt s (prAt l 0)
  · rw [guess_first h0 (by omega), guess_first h0 hb]
    omega
  · obtain ⟨k, hk, k1, k2⟩ := guess_pos h (n := n) l.length 0 (by omega) h0 (by omega)
    by_cases e : k + 1 = l.length
    · rw [guess_at h hk k1 k2, guess_at h hk (show cnt s (prAt l k) ≤ n + 1 by omega) (fun h1 => by omega), if_pos e, if_pos e]
      omega
    · have hk2 : k + 1 < l.length := by omega
      have k3 := k2 hk2
      have hlast : n < cnt s (prAt l (l.length - 1)) := by
        by_cases e2 : k + 1 = l.length - 1
        · rw [← e2]; exact k3
        · have := h.up (k + 1) (l.length - 1) (by omega) (by omega); omega
      refine ⟨?_, fun hc => by omega⟩
      rw [guess_at h hk k1 k2, if_neg e]
      by_cases e3 : n + 1 = cnt s (prAt l (k + 1))
      · rw [e3, guess_cnt h hk2, ← step_end h hk2]
        exact step_mono h hk2 k1 (by omega)
      · rw [guess_at h hk (show cnt s (prAt l k) ≤ n + 1 by omega) (fun _ => by omega), if_neg e]
        exact step_mono h hk2 k1 (by omega)
theorem guess_mono {m s : List Th} {l : List (Int × Int)} (h : Good m s l) (h0 : 0 < l.length) (n : Int) : ∀ r : Nat, guessS m s n l (-1, -1) ≤ guessS m s (n + r) l (-1, -1)
  | 0 => by simp
  | r + 1 => by
    have h1 := guess_mono h h0 n r
    have h2 := (guess_step h h0 (n + r)).1
    rw [show n + ((r + 1 : Nat) : Int) = n + r + 1 by omega]
    omega

end Go.Proofs.YtoopgdchiljmiaaGreatDoor
