/- Chapter 5: a run and the same run moved are matched; differences at opposite shifts. No program in sight. -/
import Derived.Test.YtoopgdchiljmiaaGreatDoorIc
import Derived.Test.YtoopgdchiljmiaaGreatDoorHl
import Derived.Test.YtoopgdchiljmiaaGreatDoorHs
set_option linter.unusedVariables false
set_option linter.unusedSimpArgs false
namespace Go.Proofs.YtoopgdchiljmiaaGreatDoor
open Go.RowKit Go.Sym

theorem lvB_moved (a : Rn) (d p : Int) : lvB (mvT a d) p = lvB a (p - d) := by
  unfold lvB mvT
  dsimp only
  rw [show p - (a.first + d) = p - d - a.first by omega]
theorem lvS_moved (a : Rn) (d p : Int) : lvS (mvT a d) p = lvS a (p - d) := by
  unfold lvS
  rw [lvB_moved]
  unfold mvT
  dsimp only
  rw [show p - (a.first + d) = p - d - a.first by omega]
/-- How many samples are known. -/
def knS (a : Rn) : Nat → Int
  | 0 => 0
  | i + 1 => if lvB a (a.first + i) = true then knS a i + 1 else knS a i
theorem dfV_pos (a b : Rn) (s p : Int) : 0 ≤ dfV a b s p := by unfold dfV; omega
theorem dfS_pos (a b : Rn) (s : Int) : ∀ i, 0 ≤ (dfS a b s i).1
  | 0 => by unfold dfS; simp
  | i + 1 => by
    have ih := dfS_pos a b s i
    have := dfV_pos a b s (a.first + i)
    unfold dfS
    split
    · dsimp only; omega
    · exact ih
theorem df_at (a : Rn) (d : Int) : ∀ i, dfS a (mvT a d) (0 - d) i = (0, knS a i)
  | 0 => rfl
  | i + 1 => by
    have e : a.first + (i : Int) - (0 - d) - d = a.first + i := by omega
    have h1 : dfB a (mvT a d) (0 - d) (a.first + i) = lvB a (a.first + i) := by
      unfold dfB
      rw [lvB_moved, e, Bool.and_self]
    have h2 : dfV a (mvT a d) (0 - d) (a.first + i) = 0 := by
      unfold dfV
      rw [lvS_moved, e]
      omega
    have ih := df_at a d i
    unfold dfS knS
    rw [h1, h2, ih]
    split <;> simp
theorem df_le (a : Rn) (d s : Int) : ∀ i, (dfS a (mvT a d) s i).2 ≤ knS a i
  | 0 => Int.le_refl 0
  | i + 1 => by
    have ih := df_le a d s i
    unfold dfS knS
    by_cases h : lvB a (a.first + i) = true
    · rw [if_pos h]
      split
      · dsimp only; omega
      · omega
    · rw [if_neg h, if_neg (by unfold dfB; simp [h])]
      exact ih
theorem df_zero {a b : Rn} {s : Int} : ∀ {i : Nat}, (dfS a b s i).1 = 0 → ∀ j, j < i → dfB a b s (a.first + (j : Nat)) = true → dfV a b s (a.first + (j : Nat)) = 0
  | i + 1, h, j, hj, hB => by
    have h1 := dfS_pos a b s i
    have h2 := dfV_pos a b s (a.first + i)
    unfold dfS at h
    by_cases hc : dfB a b s (a.first + i) = true
    · rw [if_pos hc] at h
      dsimp only at h
      by_cases e : j = i
      · subst e; omega
      · exact df_zero (i := i) (by omega) j (by omega) hB
    · rw [if_neg hc] at h
      by_cases e : j = i
      · subst e; exact absurd hB hc
      · exact df_zero h j (by omega) hB
theorem ap_none {a : Rn} {d s : Int} (h : (dfR a (mvT a d) s).1 = 0) : ∀ i, i ≤ a.smp.length → apL a (mvT (mvT a d) s) 0 i = []
  | 0, _ => rfl
  | i + 1, hi => by
    have ih := ap_none h i (by omega)
    have hno : apB a (mvT (mvT a d) s) 0 (a.first + i) = false := by
      have hz := df_zero h i (by omega)
      unfold dfB dfV at hz
      rw [lvB_moved, lvS_moved] at hz
      unfold apB
      rw [lvB_moved, lvB_moved, lvS_moved, lvS_moved]
      cases k1 : lvB a (a.first + i) with
      | false => rfl
      | true =>
        cases k2 : lvB a (a.first + i - s - d) with
        | false => rfl
        | true =>
          have := hz (by rw [k1, k2]; rfl)
          rw [this]
          rfl
    unfold apL
    rw [hno, if_neg (by decide), ih]
theorem low_zero {m : Int} (h : 0 < m) : lowS (0, m) = (0, 1) := by
  obtain ⟨k, rfl⟩ : ∃ k : Nat, m = k := ⟨m.toNat, by omega⟩
  unfold lowS
  dsimp only
  rw [Int.toNat_natCast, show (0 : Int).toNat = 0 from rfl, Nat.gcd_zero_left, Nat.zero_div, Nat.div_self (by omega)]
  rfl
/-- The shift at which a run and the same run moved are matched. -/
theorem found_moved {a : Rn} {d n : Int} (hn : 1 ≤ n) (hd : -100 ≤ d ∧ d ≤ 100) :
    (mtS (dfR a (mvT a d)) n 201 = (0, 0, 0) ∧ knS a a.smp.length < n) ∨
    ∃ b, mtS (dfR a (mvT a d)) n 201 = (b, dfR a (mvT a d) b) ∧ (-100 ≤ b ∧ b ≤ 100) ∧ n ≤ (dfR a (mvT a d) b).2 ∧ (dfR a (mvT a d) b).1 = 0 ∧ max b (0 - b) ≤ max d (0 - d) := by
  have hat : dfR a (mvT a d) (0 - d) = (0, knS a a.smp.length) := df_at a d _
  rcases mtS_ok (dfR a (mvT a d)) hn 201 with ⟨h1, h2⟩ | ⟨h1, h2⟩
  · refine .inl ⟨h1, ?_⟩
    have h3 := noB_congr h2 (fun t => shf_mem (n := 100) t) (0 - d) (by omega)
    rw [hat] at h3
    dsimp only at h3
    omega
  · have h3 := isB_congr h2 (fun t => shf_mem (n := 100) t)
    generalize mtS (dfR a (mvT a d)) n 201 = st at h1 h3
    obtain ⟨b, q⟩ := st
    dsimp only at h1 h3
    subst h1
    have h4 := h3.1
    have h6 := h3.2.1
    have h5 : (dfR a (mvT a d) b).2 ≤ knS a a.smp.length := df_le a d b _
    have h7 : 0 ≤ (dfR a (mvT a d) b).1 := dfS_pos _ _ _ _
    refine .inr ⟨b, rfl, by omega, h4, ?_⟩
    rcases h3.2.2 (0 - d) (by omega) (by rw [hat]; dsimp only; omega) with e | e
    · subst e
      rw [hat]
      exact ⟨rfl, by omega⟩
    · have hr : ∀ x : SM, 0 ≤ x.1 → 0 < x.2 → ¬ rlt (0, knS a a.smp.length) x → x.1 = 0 := by
        intro x hx hx2 hr
        unfold rlt at hr
        dsimp only at hr
        have h8 := Int.mul_nonneg hx (show 0 ≤ knS a a.smp.length by omega)
        have h9 : x.1 * knS a a.smp.length = 0 := by omega
        rcases Int.mul_eq_zero.1 h9 with h | h
        · exact h
        · omega
      rcases e with e | ⟨e, e2⟩
      · exfalso
        unfold rlt at e
        rw [hat] at e
        dsimp only at e
        have h8 := Int.mul_nonneg h7 (show 0 ≤ knS a a.smp.length by omega)
        omega
      · rw [hat] at e
        refine ⟨hr _ h7 (by omega) e, ?_⟩
        unfold nearer at e2
        omega

/-- What is added at a place; sums over windows of places. -/
def tmS (a b : Rn) (s p : Int) : SM := if dfB a b s p = true then (dfV a b s p, 1) else (0, 0)
def wS (T : Int → SM) (L : Int) : Nat → SM
  | 0 => (0, 0)
  | i + 1 => ((wS T L i).1 + (T (L + i)).1, (wS T L i).2 + (T (L + i)).2)
theorem dfS_w (a b : Rn) (s : Int) : ∀ i, dfS a b s i = wS (tmS a b s) a.first i
  | 0 => rfl
  | i + 1 => by
    unfold dfS wS tmS
    rw [dfS_w a b s i]
    split
    · rfl
    · simp only [Int.add_zero]
      rfl
theorem wS_add (T : Int → SM) (L : Int) (k : Nat) : ∀ n, wS T L (k + n) = ((wS T L k).1 + (wS T (L + k) n).1, (wS T L k).2 + (wS T (L + k) n).2)
  | 0 => by simp [wS]
  | n + 1 => by
    have ih := wS_add T L k n
    rw [show k + (n + 1) = k + n + 1 from rfl, show wS T L (k + n + 1) = ((wS T L (k + n)).1 + (T (L + (k + n : Nat))).1, (wS T L (k + n)).2 + (T (L + (k + n : Nat))).2) from rfl,
      show wS T (L + k) (n + 1) = ((wS T (L + k) n).1 + (T (L + k + n)).1, (wS T (L + k) n).2 + (T (L + k + n)).2) from rfl]
    rw [ih, show L + ((k + n : Nat) : Int) = L + k + n by omega]
    exact Prod.ext (by dsimp only; omega) (by dsimp only; omega)
theorem wS_zero {T : Int → SM} {L : Int} : ∀ {n : Nat}, (∀ j : Nat, j < n → T (L + j) = (0, 0)) → wS T L n = (0, 0)
  | 0, _ => rfl
  | n + 1, h => by
    unfold wS
    rw [wS_zero fun j hj => h j (by omega), h n (by omega)]
    rfl
theorem wS_shift (T : Int → SM) (e L : Int) : ∀ n, wS (fun q => T (q + e)) L n = wS T (L + e) n
  | 0 => rfl
  | n + 1 => by
    unfold wS
    rw [wS_shift T e L n, show L + (n : Int) + e = L + e + n by omega]
theorem wS_ext {T : Int → SM} {L B : Int} {n N : Nat} (h1 : B ≤ L) (h2 : L + n ≤ B + N) (hz : ∀ p, T p ≠ (0, 0) → L ≤ p ∧ p < L + n) : wS T B N = wS T L n := by
  obtain ⟨k, hk⟩ : ∃ k : Nat, L = B + k := ⟨(L - B).toNat, by omega⟩
  obtain ⟨r, hr⟩ : ∃ r : Nat, N = k + (n + r) := ⟨N - k - n, by omega⟩
  have hz' : ∀ p, ¬ (L ≤ p ∧ p < L + n) → T p = (0, 0) := fun p hp => Classical.byContradiction fun h => hp (hz p h)
  rw [hr, wS_add, wS_add, ← hk, wS_zero (T := T) (L := B) (n := k) (fun j hj => hz' _ (by omega)), wS_zero (T := T) (L := L + n) (n := r) (fun j hj => hz' _ (by omega))]
  exact Prod.ext (by dsimp only; omega) (by dsimp only; omega)
theorem wS_window {T : Int → SM} {L M : Int} {n k : Nat} (hz : ∀ p, T p ≠ (0, 0) → (L ≤ p ∧ p < L + n) ∧ M ≤ p ∧ p < M + k) : wS T L n = wS T M k := by
  have e1 := wS_ext (T := T) (L := L) (B := min L M) (n := n) (N := (max (L + n) (M + k) - min L M).toNat) (by omega) (by omega) (fun p hp => (hz p hp).1)
  have e2 := wS_ext (T := T) (L := M) (B := min L M) (n := k) (N := (max (L + n) (M + k) - min L M).toNat) (by omega) (by omega) (fun p hp => (hz p hp).2)
  rw [← e1, e2]
theorem lvB_range {t : Rn} {p : Int} (h : lvB t p = true) : 0 ≤ p - t.first ∧ p - t.first < t.smp.length :=
  Classical.byContradiction fun hn => by rw [lvB_out hn] at h; cases h
theorem df_sym (a b : Rn) (s : Int) : dfR b a (0 - s) = dfR a b s := by
  unfold dfR
  rw [dfS_w, dfS_w]
  have e : tmS b a (0 - s) = fun q => tmS a b s (q + s) := by
    funext q
    unfold tmS dfB dfV
    rw [show q - (0 - s) = q + s by omega, show q + s - s = q by omega, Bool.and_comm]
    split
    · exact Prod.ext (by dsimp only; omega) rfl
    · rfl
  rw [e, wS_shift]
  refine wS_window fun p hp => ?_
  have hB : dfB a b s p = true := by
    unfold tmS at hp
    split at hp
    · assumption
    · exact absurd rfl hp
  unfold dfB at hB
  rw [Bool.and_eq_true] at hB
  have r1 := lvB_range hB.1
  have r2 := lvB_range hB.2
  omega
/-- What is matched is not worse than at any shift. -/
theorem best_le {a b : Rn} {n s : Int} (hn : 1 ≤ n) (hs : -128 ≤ s ∧ s ≤ 128) :
    (mtS (dfR a b) n 257 = (0, 0, 0) ∧ (dfR a b s).2 < n) ∨
    ∃ k, mtS (dfR a b) n 257 = (k, dfR a b k) ∧ (-128 ≤ k ∧ k ≤ 128) ∧ n ≤ (dfR a b k).2 ∧ (n ≤ (dfR a b s).2 → cmpS (lowS (dfR a b k)) (lowS (dfR a b s)) ≤ 0) := by
  rcases mtS_ok (dfR a b) hn 257 with ⟨h1, h2⟩ | ⟨h1, h2⟩
  · have h3 := noB_congr h2 (fun t => shf_mem (n := 128) t) s (by omega)
    exact .inl ⟨h1, by omega⟩
  · have h3 := isB_congr h2 (fun t => shf_mem (n := 128) t)
    generalize mtS (dfR a b) n 257 = st at h1 h3
    obtain ⟨k, q⟩ := st
    dsimp only at h1 h3
    subst h1
    have h4 := h3.1
    have h6 := h3.2.1
    refine .inr ⟨k, rfl, by omega, h4, fun hl => ?_⟩
    have p1 : 0 ≤ (dfR a b k).1 := dfS_pos _ _ _ _
    have p2 : 0 ≤ (dfR a b s).1 := dfS_pos _ _ _ _
    have hno : ¬ rlt (dfR a b s) (dfR a b k) := by
      rcases h3.2.2 s (by omega) hl with e | e
      · subst e
        intro h
        exact rlt_asymm h h
      · rcases e with e | e
        · exact rlt_asymm e
        · exact e.1
    unfold cmpS
    rw [if_neg (show ¬ rlt (lowS (dfR a b s)) (lowS (dfR a b k)) from fun h => hno ((lowS_lt p2 (by omega) p1 (by omega)).1 h))]
    split <;> omega

end Go.Proofs.YtoopgdchiljmiaaGreatDoor
