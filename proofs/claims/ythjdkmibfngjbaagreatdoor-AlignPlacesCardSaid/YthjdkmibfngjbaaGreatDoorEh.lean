/- Chapter 5: guesses: both ways agree; rounding. -/
import Derived.Test.YthjdkmibfngjbaaGreatDoorEe
import Derived.Test.YthjdkmibfngjbaaGreatDoorEd
set_option linter.unusedVariables false
set_option linter.unusedSimpArgs false
namespace Go.Proofs.YthjdkmibfngjbaaGreatDoor
open Go.RowKit Go.Sym

theorem lastPr_not {m s : List Th} {l : List (Int × Int)} (h : Good m s l) {k : Nat} (hk : k < l.length) : prAt l k ≠ (-1, -1) := by
  intro e
  have := (h.p k hk).1.1
  rw [e] at this
  exact absurd this (by decide)
theorem guess_first {m s : List Th} {n : Int} {l : List (Int × Int)} (h0 : 0 < l.length) (hn : n ≤ cnt s (prAt l 0)) : guessS m s n l (-1, -1) = plc m (prAt l 0) + n - cnt s (prAt l 0) := by
  have := guessS_drop m s n l 0 h0 (-1, -1)
  rw [List.drop_zero] at this
  rw [this, if_neg (by omega), if_pos (.inr rfl)]
theorem guess_last {m s : List Th} {n : Int} {l : List (Int × Int)} {k : Nat} {a : Int × Int} (hk : k + 1 = l.length) (hn : cnt s (prAt l k) ≤ n) : guessS m s n (l.drop k) a = plc m (prAt l k) + n - cnt s (prAt l k) := by
  rw [guessS_drop m s n l k (by omega)]
  by_cases h : n > cnt s (prAt l k)
  · rw [if_pos h, List.drop_of_length_le (by omega)]
    rfl
  · rw [if_neg h, if_pos (.inl (by omega))]
theorem round_zero {d : Int} (hd : 0 < d) : roundS 0 d = 0 := by
  unfold roundS
  rw [Int.tdiv_eq_ediv_of_nonneg (by omega)]
  exact Int.ediv_eq_zero_of_lt (by omega) (by omega)
theorem guess_mid {m s : List Th} {n : Int} {l : List (Int × Int)} (h : Good m s l) {k : Nat} {a : Int × Int} (hk : k + 1 < l.length) (hn : cnt s (prAt l k) ≤ n) (hn2 : n < cnt s (prAt l (k + 1))) (ha : a = (-1, -1) → cnt s (prAt l k) < n) : guessS m s n (l.drop k) a = stepS m s n (prAt l k) (prAt l (k + 1)) := by
  rw [guessS_drop m s n l k (by omega)]
  by_cases h1 : n > cnt s (prAt l k)
  · rw [if_pos h1, guessS_drop m s n l (k + 1) hk, if_neg (by omega), if_neg (fun h2 => ?_)]
    rcases h2 with h2 | h2
    · omega
    · exact lastPr_not h (by omega) h2
  · have e : n = cnt s (prAt l k) := by omega
    rw [if_neg h1, if_pos (.inl e)]
    unfold stepS
    rw [show n - cnt s (prAt l k) = 0 by omega, Int.zero_mul, round_zero (by omega)]
    omega
theorem guess_next {m s : List Th} {n : Int} {l : List (Int × Int)} {k : Nat} {a : Int × Int} (hk : k < l.length) (hn : cnt s (prAt l k) < n) : guessS m s n (l.drop k) a = guessS m s n (l.drop (k + 1)) (prAt l k) := by
  rw [guessS_drop m s n l k hk, if_pos hn]

theorem round_bound {a d : Int} (ha : -40000000000000000 ≤ a ∧ a ≤ 40000000000000000) (hd : 0 < d ∧ d ≤ 200000000) : -90000000000000000 ≤ roundS a d ∧ roundS a d ≤ 90000000000000000 := by
  unfold roundS
  exact tdiv_bound (by omega) (by omega) (by omega)
def Rounded_i (a d : Int) : Inst := { f := 141, hin := [], args := [i64 a, i64 d], hout := [], ret := i64 (roundS a d), σ := [] }
theorem Rounded_s (a d : Int) (ha : -40000000000000000 ≤ a ∧ a ≤ 40000000000000000) (hd : 0 < d ∧ d ≤ 200000000) : (Rounded_i a d).ok Tryz.prog := by
  have hB := round_bound ha hd
  unfold roundS at hB
  unfold Rounded_i Inst.ok; dsimp only; refine spec_of_body (tys := tys) 0 Tryz.func141 (by kernel_rfl) rfl tys_ok rfl (Nat.le_of_ble_eq_true rfl) (fun _ _ h => (by cases h)) fun F hP hm hC hrd => ?_; conv => whnf
  (repeat (first | (refine lwp_seq fun K hK => ?_) | (refine thenS_normal ?_; apply_assumption -exfalso -symm) | (refine thenS_exit ?_) | (refine thenS_ret ?_) | (refine inBlockS_normal ?_) | (refine inBlockS_ret ?_) | (refine inBlockS_hit rfl ?_) | (refine inBlockS_miss rfl ?_) | (refine lwp_block ?_) | (refine lwp_skip ?_) | (refine lwp_exit ?_) | (refine lwp_ret ?_) | (refine lwp_label ?_) | (refine lwp_region hC ⟨[], [], []⟩ (told0 _ _) rfl True.intro ?_) | (refine lwp_region hC ⟨[], [], []⟩ (told0 _ _) rfl (by ((try simp only [AllL, All, cd_p, cp_p, cv_p, InK, and_true, true_and]); all_goals ((repeat' (first | refine And.intro ?_ ?_ | intro _)) <;> first | omega | exact True.intro | assumption | (simp; done) | rfl | (simp_all; done) | (simp_all; omega)))) ?_)))
  all_goals first | ((try simp only [AllL, All, cd_p, cp_p, cv_p, InK, and_true, true_and]); all_goals ((repeat' (first | refine And.intro ?_ ?_ | intro _)) <;> first | omega | exact True.intro | assumption | (simp; done) | rfl | (simp_all; done) | (simp_all; omega))) | skip
  (refine end_intro (by first | exact .inr rfl | exact .inl rfl) [] rfl ?_)
  exact ⟨rfl, trivial⟩
theorem floor_le {a d : Int} (ha : 0 ≤ a) (hd : 0 < d) : 0 ≤ Int.tdiv a d ∧ 0 ≤ Int.tdiv a d * d ∧ Int.tdiv a d * d ≤ a := by
  rw [Int.tdiv_eq_ediv_of_nonneg ha]
  exact ⟨Int.ediv_nonneg ha (by omega), Int.mul_nonneg (Int.ediv_nonneg ha (by omega)) (by omega), Int.ediv_mul_le a (by omega)⟩
def Floor_i (a d : Int) : Inst := { f := 142, hin := [], args := [i64 a, i64 d], hout := [], ret := i64 (Int.tdiv a d), σ := [] }
theorem Floor_s (a d : Int) (ha : 0 ≤ a ∧ a ≤ 90000000000000000) (hd : 0 < d) : (Floor_i a d).ok Tryz.prog := by
  have hB := floor_le ha.1 hd
  have hC := tdiv_bound (a := a) (c := 90000000000000000) hd (by omega) (by omega)
  unfold Floor_i Inst.ok; dsimp only; refine spec_of_body (tys := tys) 0 Tryz.func142 (by kernel_rfl) rfl tys_ok rfl (Nat.le_of_ble_eq_true rfl) (fun _ _ h => (by cases h)) fun F hP hm hC hrd => ?_; conv => whnf
  (repeat (first | (refine lwp_seq fun K hK => ?_) | (refine thenS_normal ?_; apply_assumption -exfalso -symm) | (refine thenS_exit ?_) | (refine thenS_ret ?_) | (refine inBlockS_normal ?_) | (refine inBlockS_ret ?_) | (refine inBlockS_hit rfl ?_) | (refine inBlockS_miss rfl ?_) | (refine lwp_block ?_) | (refine lwp_skip ?_) | (refine lwp_exit ?_) | (refine lwp_ret ?_) | (refine lwp_label ?_) | (refine lwp_region hC ⟨[], [], []⟩ (told0 _ _) rfl True.intro ?_) | (refine lwp_region hC ⟨[], [], []⟩ (told0 _ _) rfl (by ((try simp only [AllL, All, cd_p, cp_p, cv_p, InK, and_true, true_and]); all_goals ((repeat' (first | refine And.intro ?_ ?_ | intro _)) <;> first | omega | exact True.intro | assumption | (simp; done) | rfl | (simp_all; done) | (simp_all; omega)))) ?_)))
  all_goals first | ((try simp only [AllL, All, cd_p, cp_p, cv_p, InK, and_true, true_and]); all_goals ((repeat' (first | refine And.intro ?_ ?_ | intro _)) <;> first | omega | exact True.intro | assumption | (simp; done) | rfl | (simp_all; done) | (simp_all; omega))) | skip
  (refine lwp_cond hC rfl (by first | exact True.intro | ((try simp only [AllL, All, cd_p, cp_p, cv_p, InK, and_true, true_and]); all_goals ((repeat' (first | refine And.intro ?_ ?_ | intro _)) <;> first | omega | exact True.intro | assumption | (simp; done) | rfl | (simp_all; done) | (simp_all; omega)))) (fun hb => ?_) (fun hb => ?_) <;> (try simp only [decide_eq_true_eq, decide_eq_false_iff_not, Bool.not_eq_true', Bool.not_eq_false', ne_eq, Decidable.not_not] at hb))
  · exact absurd hb (by omega)
  · (repeat (first | (refine lwp_seq fun K hK => ?_) | (refine thenS_normal ?_; apply_assumption -exfalso -symm) | (refine thenS_exit ?_) | (refine thenS_ret ?_) | (refine inBlockS_normal ?_) | (refine inBlockS_ret ?_) | (refine inBlockS_hit rfl ?_) | (refine inBlockS_miss rfl ?_) | (refine lwp_block ?_) | (refine lwp_skip ?_) | (refine lwp_exit ?_) | (refine lwp_ret ?_) | (refine lwp_label ?_) | (refine lwp_region hC ⟨[], [], []⟩ (told0 _ _) rfl True.intro ?_) | (refine lwp_region hC ⟨[], [], []⟩ (told0 _ _) rfl (by ((try simp only [AllL, All, cd_p, cp_p, cv_p, InK, and_true, true_and]); all_goals ((repeat' (first | refine And.intro ?_ ?_ | intro _)) <;> first | omega | exact True.intro | assumption | (simp; done) | rfl | (simp_all; done) | (simp_all; omega)))) ?_)))
    (refine end_intro (by first | exact .inr rfl | exact .inl rfl) [] rfl ?_)
    exact ⟨rfl, trivial⟩
def Round_i (a d : Int) : Inst := { f := 101, hin := [], args := [i64 a, i64 d], hout := [], ret := i64 (roundS a d), σ := [] }
theorem Round_s (a d : Int) (ha : 0 ≤ a ∧ a ≤ 40000000000000000) (hd : 0 < d ∧ d ≤ 200000000) : (Round_i a d).ok Tryz.prog := by
  unfold Round_i Inst.ok; dsimp only; refine spec_of_body (tys := tys) 0 Tryz.func101 (by kernel_rfl) rfl tys_ok rfl (Nat.le_of_ble_eq_true rfl) (fun _ _ h => (by cases h)) fun F hP hm hC hrd => ?_; conv => whnf
  (repeat (first | (refine lwp_seq fun K hK => ?_) | (refine thenS_normal ?_; apply_assumption -exfalso -symm) | (refine thenS_exit ?_) | (refine thenS_ret ?_) | (refine inBlockS_normal ?_) | (refine inBlockS_ret ?_) | (refine inBlockS_hit rfl ?_) | (refine inBlockS_miss rfl ?_) | (refine lwp_block ?_) | (refine lwp_skip ?_) | (refine lwp_exit ?_) | (refine lwp_ret ?_) | (refine lwp_label ?_) | (refine lwp_region hC ⟨[], [], []⟩ (told0 _ _) rfl True.intro ?_) | (refine lwp_region hC ⟨[], [], []⟩ (told0 _ _) rfl (by ((try simp only [AllL, All, cd_p, cp_p, cv_p, InK, and_true, true_and]); all_goals ((repeat' (first | refine And.intro ?_ ?_ | intro _)) <;> first | omega | exact True.intro | assumption | (simp; done) | rfl | (simp_all; done) | (simp_all; omega)))) ?_)))
  (refine lwp_region hC ⟨[], [], [(6, Floor_i (2 * a + d) (2 * d))]⟩ (told1 _ (by rw [hP]; exact (calls_cons (Floor_s _ _ (by omega) (by omega)) calls_nil))) rfl ?_ ?_; rotate_left 1)
  · (repeat (first | (refine lwp_seq fun K hK => ?_) | (refine thenS_normal ?_; apply_assumption -exfalso -symm) | (refine thenS_exit ?_) | (refine thenS_ret ?_) | (refine inBlockS_normal ?_) | (refine inBlockS_ret ?_) | (refine inBlockS_hit rfl ?_) | (refine inBlockS_miss rfl ?_) | (refine lwp_block ?_) | (refine lwp_skip ?_) | (refine lwp_exit ?_) | (refine lwp_ret ?_) | (refine lwp_label ?_) | (refine lwp_region hC ⟨[], [], []⟩ (told0 _ _) rfl True.intro ?_) | (refine lwp_region hC ⟨[], [], []⟩ (told0 _ _) rfl (by ((try simp only [AllL, All, cd_p, cp_p, cv_p, InK, and_true, true_and]); all_goals ((repeat' (first | refine And.intro ?_ ?_ | intro _)) <;> first | omega | exact True.intro | assumption | (simp; done) | rfl | (simp_all; done) | (simp_all; omega)))) ?_)))
    (refine end_intro (by first | exact .inr rfl | exact .inl rfl) [] rfl ?_)
    exact ⟨rfl, trivial⟩
  · ((try simp only [AllL, All, cd_p, cp_p, cv_p, InK, and_true, true_and]); all_goals ((repeat' (first | refine And.intro ?_ ?_ | intro _)) <;> first | omega | exact True.intro | assumption | (simp; done) | rfl | (simp_all; done) | (simp_all; omega)))

end Go.Proofs.YthjdkmibfngjbaaGreatDoor
