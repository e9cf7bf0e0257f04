/- Chapter 5: how many samples are known; ratios checked; a run moved is valid. -/
import Derived.Test.YtoopgdchiljmiaaGreatDoorIj
import Derived.Test.YtoopgdchiljmiaaGreatDoorIe
set_option linter.unusedVariables false
set_option linter.unusedSimpArgs false
namespace Go.Proofs.YtoopgdchiljmiaaGreatDoor
open Go.RowKit Go.Sym

def Kn_i (t : Rn) (σ : Ren) : Inst := { f := 75, hin := rnIn t, args := [rnA 0 1 t], hout := [], ret := i64 (knS t t.smp.length), σ := σ }
theorem knS_bound (t : Rn) : ∀ i, 0 ≤ knS t i ∧ knS t i ≤ i
  | 0 => by unfold knS; simp
  | i + 1 => by
    have ih := knS_bound t i
    unfold knS
    split <;> omega
set_option maxRecDepth 20000 in
theorem Kn_s (t : Rn) (σ : Ren) (h1 : t.smp.length ≤ 100000) (h2 : t.holes.length ≤ 100000) : (Kn_i t σ).ok Tryz.prog := by
  unfold Kn_i Inst.ok; dsimp only; refine spec_of_body (tys := tys) 2 Tryz.func75 (by kernel_rfl) rfl tys_ok rfl (Nat.le_of_ble_eq_true rfl) (fun _ _ h => (by cases h)) fun F hP hm hC hrd => ?_; conv => whnf
  repeat first | refine lwp_seq fun K hK => ?_ | ((with_reducible refine thenS_normal ?_); apply_assumption -exfalso -symm) | refine thenS_exit ?_ | refine thenS_ret ?_ | refine inBlockS_normal ?_ | refine inBlockS_ret ?_ | refine inBlockS_hit rfl ?_ | refine inBlockS_miss rfl ?_ | refine lwp_block ?_ | refine lwp_skip ?_ | refine lwp_exit ?_ | refine lwp_ret ?_ | refine lwp_label ?_ | refine lwp_region hC ⟨[], [], []⟩ (told0 _ _) rfl True.intro ?_
  refine lwp_loop (fun i : Nat => ⟨[(4, i64 i), (3, i64 (knS t i)), (1, .ptr 2 0 0 0)], [(2, .blk 69 [.lit (.string t.name), i64 t.first, .sl 0 t.smp.length, .sl 1 t.holes.length]), (0, .ro t.smp.length 1 (flC t.smp)), (1, .ro t.holes.length 2 (spC t.holes))], 3⟩) (fun i => i ≤ t.smp.length) (fun i => t.smp.length - i) 0 ⟨?_, sub_intro hm [(0, some 0), (1, some 1), (2, some 2)] rfl ?_⟩ ?_
  · exact Nat.zero_le _
  · unfold knS
    ((try simp only [AllL, All, cd_p, cp_p, cv_p, InK, and_true, true_and]); all_goals ((repeat' (first | refine And.intro ?_ ?_ | intro _)) <;> first | omega | exact True.intro | assumption | (simp; done) | rfl | (simp_all; done) | (simp_all; omega)))
  · rintro i hi
    have hst : knS t (i + 1) = if lvB t (t.first + i) = true then knS t i + 1 else knS t i := rfl
    have hB := knS_bound t i
    have hE : i = t.smp.length → knS t t.smp.length = knS t i := fun h => by rw [h]
    generalize knS t i = K at hst hB hE ⊢
    repeat first | refine lwp_seq fun K hK => ?_ | ((with_reducible refine thenS_normal ?_); apply_assumption -exfalso -symm) | refine thenS_exit ?_ | refine thenS_ret ?_ | refine inBlockS_normal ?_ | refine inBlockS_ret ?_ | refine inBlockS_hit rfl ?_ | refine inBlockS_miss rfl ?_ | refine lwp_block ?_ | refine lwp_skip ?_ | refine lwp_exit ?_ | refine lwp_ret ?_ | refine lwp_label ?_ | refine lwp_region hC ⟨[], [], []⟩ (told0 _ _) rfl True.intro ?_
    (refine lwp_cond hC rfl (by first | exact True.intro | ((try simp only [AllL, All, cd_p, cp_p, cv_p, InK, and_true, true_and]); all_goals ((repeat' (first | refine And.intro ?_ ?_ | intro _)) <;> first | omega | exact True.intro | assumption | (simp; done) | rfl | (simp_all; done) | (simp_all; omega)))) (fun hb => ?_) (fun hb => ?_) <;> (try simp only [decide_eq_true_eq, decide_eq_false_iff_not, Bool.not_eq_true', Bool.not_eq_false', ne_eq, Decidable.not_not] at hb))
    · have hil : i < t.smp.length := by omega
      clear hb hE
      rw [lvB_in hil (by omega)] at hst
      repeat first | refine lwp_seq fun K hK => ?_ | ((with_reducible refine thenS_normal ?_); apply_assumption -exfalso -symm) | refine thenS_exit ?_ | refine thenS_ret ?_ | refine inBlockS_normal ?_ | refine inBlockS_ret ?_ | refine inBlockS_hit rfl ?_ | refine inBlockS_miss rfl ?_ | refine lwp_block ?_ | refine lwp_skip ?_ | refine lwp_exit ?_ | refine lwp_ret ?_ | refine lwp_label ?_ | refine lwp_region hC ⟨[], [], []⟩ (told0 _ _) rfl True.intro ?_
      (refine lwp_region hC ⟨[], [], [(2, RIsKnown_i t i [(0, some 0), (1, some 1)])]⟩ (told1 _ (by rw [hP]; exact (calls_cons (RIsKnown_s _ _ _ h2) calls_nil))) rfl ?_ ?_; rotate_left 1)
      · repeat first | refine lwp_seq fun K hK => ?_ | ((with_reducible refine thenS_normal ?_); apply_assumption -exfalso -symm) | refine thenS_exit ?_ | refine thenS_ret ?_ | refine inBlockS_normal ?_ | refine inBlockS_ret ?_ | refine inBlockS_hit rfl ?_ | refine inBlockS_miss rfl ?_ | refine lwp_block ?_ | refine lwp_skip ?_ | refine lwp_exit ?_ | refine lwp_ret ?_ | refine lwp_label ?_ | refine lwp_region hC ⟨[], [], []⟩ (told0 _ _) rfl True.intro ?_
        (refine lwp_cond hC rfl (by first | exact True.intro | ((try simp only [AllL, All, cd_p, cp_p, cv_p, InK, and_true, true_and]); all_goals ((repeat' (first | refine And.intro ?_ ?_ | intro _)) <;> first | omega | exact True.intro | assumption | (simp; done) | rfl | (simp_all; done) | (simp_all; omega)))) (fun hb => ?_) (fun hb => ?_) <;> (try simp only [decide_eq_true_eq, decide_eq_false_iff_not, Bool.not_eq_true', Bool.not_eq_false', ne_eq, Decidable.not_not] at hb))
        · rw [if_pos hb] at hst
          (repeat (first | (refine lwp_seq fun K hK => ?_) | (refine thenS_normal ?_; apply_assumption -exfalso -symm) | (refine thenS_exit ?_) | (refine thenS_ret ?_) | (refine inBlockS_normal ?_) | (refine inBlockS_ret ?_) | (refine inBlockS_hit rfl ?_) | (refine inBlockS_miss rfl ?_) | (refine lwp_block ?_) | (refine lwp_skip ?_) | (refine lwp_exit ?_) | (refine lwp_ret ?_) | (refine lwp_label ?_) | (refine lwp_region hC ⟨[], [], []⟩ (told0 _ _) rfl True.intro ?_) | (refine lwp_region hC ⟨[], [], []⟩ (told0 _ _) rfl (by ((try simp only [AllL, All, cd_p, cp_p, cv_p, InK, and_true, true_and]); all_goals ((repeat' (first | refine And.intro ?_ ?_ | intro _)) <;> first | omega | exact True.intro | assumption | (simp; done) | rfl | (simp_all; done) | (simp_all; omega)))) ?_)))
          refine thenS_normal ⟨i + 1, ?_, ?_, sub_intro hm [(0, some 0), (1, some 1), (2, some 2)] rfl ?_⟩
          · omega
          · omega
          · rw [hst]
            ((try simp only [AllL, All, cd_p, cp_p, cv_p, InK, and_true, true_and]); all_goals ((repeat' (first | refine And.intro ?_ ?_ | intro _)) <;> first | omega | exact True.intro | assumption | (simp; done) | rfl | (simp_all; done) | (simp_all; omega)))
        · rw [if_neg (by rw [hb]; decide)] at hst
          (repeat (first | (refine lwp_seq fun K hK => ?_) | (refine thenS_normal ?_; apply_assumption -exfalso -symm) | (refine thenS_exit ?_) | (refine thenS_ret ?_) | (refine inBlockS_normal ?_) | (refine inBlockS_ret ?_) | (refine inBlockS_hit rfl ?_) | (refine inBlockS_miss rfl ?_) | (refine lwp_block ?_) | (refine lwp_skip ?_) | (refine lwp_exit ?_) | (refine lwp_ret ?_) | (refine lwp_label ?_) | (refine lwp_region hC ⟨[], [], []⟩ (told0 _ _) rfl True.intro ?_) | (refine lwp_region hC ⟨[], [], []⟩ (told0 _ _) rfl (by ((try simp only [AllL, All, cd_p, cp_p, cv_p, InK, and_true, true_and]); all_goals ((repeat' (first | refine And.intro ?_ ?_ | intro _)) <;> first | omega | exact True.intro | assumption | (simp; done) | rfl | (simp_all; done) | (simp_all; omega)))) ?_)))
          refine thenS_normal ⟨i + 1, ?_, ?_, sub_intro hm [(0, some 0), (1, some 1), (2, some 2)] rfl ?_⟩
          · omega
          · omega
          · rw [hst]
            ((try simp only [AllL, All, cd_p, cp_p, cv_p, InK, and_true, true_and]); all_goals ((repeat' (first | refine And.intro ?_ ?_ | intro _)) <;> first | omega | exact True.intro | assumption | (simp; done) | rfl | (simp_all; done) | (simp_all; omega)))
      · ((try simp only [AllL, All, cd_p, cp_p, cv_p, InK, and_true, true_and]); all_goals ((repeat' (first | refine And.intro ?_ ?_ | intro _)) <;> first | omega | exact True.intro | assumption | (simp; done) | rfl | (simp_all; done) | (simp_all; omega)))
    · have hE := hE (by omega)
      repeat first | refine lwp_seq fun K hK => ?_ | ((with_reducible refine thenS_normal ?_); apply_assumption -exfalso -symm) | refine thenS_exit ?_ | refine thenS_ret ?_ | refine inBlockS_normal ?_ | refine inBlockS_ret ?_ | refine inBlockS_hit rfl ?_ | refine inBlockS_miss rfl ?_ | refine lwp_block ?_ | refine lwp_skip ?_ | refine lwp_exit ?_ | refine lwp_ret ?_ | refine lwp_label ?_ | refine lwp_region hC ⟨[], [], []⟩ (told0 _ _) rfl True.intro ?_
      (refine end_intro (by first | exact .inr rfl | exact .inl rfl) [] rfl ?_)
      rw [hE]
      exact ⟨rfl, trivial⟩

def CRat_i (x y : Nat) : Inst := { f := 76, hin := [], args := [.agg [i64 x, i64 y]], hout := [], ret := i64 0, σ := [] }
theorem CRat_s (x y : Nat) (hx : x ≤ 999999999) (hy : 1 ≤ y ∧ y ≤ 999999999) (hg : Nat.gcd x y = 1) : (CRat_i x y).ok Tryz.prog := by
  have e : firstS [withinS (x : Int) (-999999999) 999999999, withinS (y : Int) 1 999999999] = 0 := by
    rw [firstS_cons, firstS_cons, withinS_zero, withinS_zero]
    exact ⟨by omega, by omega, rfl⟩
  unfold CRat_i Inst.ok; dsimp only; refine spec_of_body (tys := tys) 0 Tryz.func76 (by kernel_rfl) rfl tys_ok rfl (Nat.le_of_ble_eq_true rfl) (fun _ _ h => (by cases h)) fun F hP hm hC hrd => ?_; conv => whnf
  repeat first | refine lwp_seq fun K hK => ?_ | ((with_reducible refine thenS_normal ?_); apply_assumption -exfalso -symm) | refine thenS_exit ?_ | refine thenS_ret ?_ | refine inBlockS_normal ?_ | refine inBlockS_ret ?_ | refine inBlockS_hit rfl ?_ | refine inBlockS_miss rfl ?_ | refine lwp_block ?_ | refine lwp_skip ?_ | refine lwp_exit ?_ | refine lwp_ret ?_ | refine lwp_label ?_ | refine lwp_region hC ⟨[], [], []⟩ (told0 _ _) rfl True.intro ?_
  (refine lwp_drawn hC (by rw [hP]; exact mixed) ⟨[], [], [(2, CheckRange_i x (-999999999) 999999999), (5, CheckRange_i y 1 999999999), (7, First_i [withinS (x : Int) (-999999999) 999999999, withinS (y : Int) 1 999999999] [(0, some 1)])]⟩ (told1 _ (by rw [hP]; exact (calls_cons (CheckRange_s _ _ _) (calls_cons (CheckRange_s _ _ _) (calls_cons (First_s _ _ (by simp)) calls_nil))))) [0, 1, 3, 0, 8, 31, 63, 127, 255] 5 rfl ?_ ?_; rotate_left 1)
  · rw [e]
    repeat first | refine lwp_seq fun K hK => ?_ | ((with_reducible refine thenS_normal ?_); apply_assumption -exfalso -symm) | refine thenS_exit ?_ | refine thenS_ret ?_ | refine inBlockS_normal ?_ | refine inBlockS_ret ?_ | refine inBlockS_hit rfl ?_ | refine inBlockS_miss rfl ?_ | refine lwp_block ?_ | refine lwp_skip ?_ | refine lwp_exit ?_ | refine lwp_ret ?_ | refine lwp_label ?_ | refine lwp_region hC ⟨[], [], []⟩ (told0 _ _) rfl True.intro ?_
    (refine lwp_cond hC rfl (by first | exact True.intro | ((try simp only [AllL, All, cd_p, cp_p, cv_p, InK, and_true, true_and]); all_goals ((repeat' (first | refine And.intro ?_ ?_ | intro _)) <;> first | omega | exact True.intro | assumption | (simp; done) | rfl | (simp_all; done) | (simp_all; omega)))) (fun hb => ?_) (fun hb => ?_) <;> (try simp only [decide_eq_true_eq, decide_eq_false_iff_not, Bool.not_eq_true', Bool.not_eq_false', ne_eq, Decidable.not_not] at hb))
    · exact absurd trivial hb
    · clear hb
      repeat first | refine lwp_seq fun K hK => ?_ | ((with_reducible refine thenS_normal ?_); apply_assumption -exfalso -symm) | refine thenS_exit ?_ | refine thenS_ret ?_ | refine inBlockS_normal ?_ | refine inBlockS_ret ?_ | refine inBlockS_hit rfl ?_ | refine inBlockS_miss rfl ?_ | refine lwp_block ?_ | refine lwp_skip ?_ | refine lwp_exit ?_ | refine lwp_ret ?_ | refine lwp_label ?_ | refine lwp_region hC ⟨[], [], []⟩ (told0 _ _) rfl True.intro ?_
      (refine lwp_region hC ⟨[], [], [(4, Dvs_i x y), (6, When_i (decide (((Nat.gcd x y : Nat) : Int) ≠ 1)) 1)]⟩ (told1 _ (by rw [hP]; exact (calls_cons (Dvs_s _ _ (by omega) (by omega)) (calls_cons (When_s _ _) calls_nil)))) rfl ?_ ?_; rotate_left 1)
      · repeat first | refine lwp_seq fun K hK => ?_ | ((with_reducible refine thenS_normal ?_); apply_assumption -exfalso -symm) | refine thenS_exit ?_ | refine thenS_ret ?_ | refine inBlockS_normal ?_ | refine inBlockS_ret ?_ | refine inBlockS_hit rfl ?_ | refine inBlockS_miss rfl ?_ | refine lwp_block ?_ | refine lwp_skip ?_ | refine lwp_exit ?_ | refine lwp_ret ?_ | refine lwp_label ?_ | refine lwp_region hC ⟨[], [], []⟩ (told0 _ _) rfl True.intro ?_
        (refine end_intro (by first | exact .inr rfl | exact .inl rfl) [] rfl ?_)
        rw [hg]
        exact ⟨rfl, trivial⟩
      · ((try simp only [AllL, All, cd_p, cp_p, cv_p, InK, and_true, true_and]); all_goals ((repeat' (first | refine And.intro ?_ ?_ | intro _)) <;> first | omega | exact True.intro | assumption | (simp; done) | rfl | (simp_all; done) | (simp_all; omega)))
  · ((try simp only [AllL, All, cd_p, cp_p, cv_p, InK, and_true, true_and]); all_goals ((repeat' (first | refine And.intro ?_ ?_ | intro _)) <;> first | omega | exact True.intro | assumption | (simp; done) | rfl | (simp_all; done) | (simp_all; omega)))
def CRatL_i (d : SM) : Inst := { f := 76, hin := [], args := [.agg [i64 (lowS d).1, i64 (lowS d).2]], hout := [], ret := i64 0, σ := [] }
theorem CRatL_s (d : SM) (h1 : 0 ≤ d.1 ∧ d.1 ≤ 999999999) (h2 : 0 < d.2 ∧ d.2 ≤ 4096) : (CRatL_i d).ok Tryz.prog := by
  obtain ⟨x, y⟩ := d
  obtain ⟨p, rfl⟩ : ∃ p : Nat, x = p := ⟨x.toNat, by omega⟩
  obtain ⟨q, rfl⟩ : ∃ q : Nat, y = q := ⟨y.toNat, by omega⟩
  dsimp only at h1 h2
  unfold CRatL_i
  rw [lowS_nat]
  have hg : 0 < Nat.gcd p q := Nat.gcd_pos_of_pos_right _ (by omega)
  have k1 := Nat.div_le_self p (Nat.gcd p q)
  have k2 := Nat.div_le_self q (Nat.gcd p q)
  have k3 : 1 ≤ q / Nat.gcd p q := (Nat.one_le_div_iff hg).2 (Nat.gcd_le_right _ (by omega))
  have k4 : Nat.gcd (p / Nat.gcd p q) (q / Nat.gcd p q) = 1 := by rw [Nat.gcd_div (Nat.gcd_dvd_left _ _) (Nat.gcd_dvd_right _ _), Nat.div_self hg]
  exact CRat_s _ _ (by omega) (by omega) k4

theorem runE_moved {t : Rn} {d : Int} (h : runE t = 0) (h1 : 0 ≤ t.first + d) (h2 : t.first + d + (t.smp.length : Int) ≤ 100000000) : runE (mvT t d) = 0 := by
  rw [runE_eq] at h ⊢
  split at h
  · rename_i hx; exact absurd h hx
  · rename_i a1
    split at h
    · rename_i hx; exact absurd h hx
    · rename_i a2
      have a1 : headR t = 0 := Classical.byContradiction a1
      have a2 : bodyR t = 0 := Classical.byContradiction a2
      have b1 : headR (mvT t d) = 0 := by
        unfold headR at a1 ⊢
        rw [firstS_cons, firstS_cons, firstS_cons] at a1 ⊢
        exact ⟨a1.1, withinS_zero.2 (by show 0 ≤ t.first + d ∧ t.first + d ≤ _; omega), a1.2.2.1, rfl⟩
      have b2 : bodyR (mvT t d) = 0 := by
        unfold bodyR at a2 ⊢
        rw [firstS_cons, firstS_cons] at a2 ⊢
        refine ⟨a2.1, ?_, rfl⟩
        rw [whenS_zero (by decide)]
        exact decide_eq_false (by show ¬ 100000000 < t.first + d + (t.smp.length : Int); omega)
      rw [b1, if_neg (by decide), b2, if_neg (by decide)]
      exact h
theorem mv_ok {t : Rn} {d : Int} (h : runE t = 0) (hd : -100000000 ≤ d ∧ d ≤ 100000000) (h1 : 0 ≤ t.first + d) (h2 : t.first + d + (t.smp.length : Int) ≤ 100000000) (hl : t.holes.length ≤ 100000) : mvR t d = (mvT t d, 0) := by
  have h0 : oneE t d = 0 := by
    unfold oneE
    rw [firstS_cons, firstS_cons, withinS_zero]
    exact ⟨h, hd, rfl⟩
  rw [(mv_zero h0 hl).2.2.2.2]
  unfold mvQ
  rw [if_neg (by omega)]
theorem knS_len (t : Rn) (d : Int) : (mvT t d).smp.length = t.smp.length := rfl

theorem tm101 (x : Int) : -100 ≤ Int.tmod x 101 ∧ Int.tmod x 101 ≤ 100 := by
  by_cases h : 0 ≤ x
  · rw [Int.tmod_eq_emod_of_nonneg h]; omega
  · rw [show x = -(-x) by omega, Int.neg_tmod, Int.tmod_eq_emod_of_nonneg (show 0 ≤ -x by omega)]; omega
theorem tm12 {z : Int} (h : -128 ≤ z) : 0 ≤ Int.tmod (z + 128) 12 ∧ Int.tmod (z + 128) 12 ≤ 11 := by
  rw [Int.tmod_eq_emod_of_nonneg (show 0 ≤ z + 128 by omega)]; omega
theorem mtcE_ok {a b : Rn} {m n : Int} (h1 : runE a = 0) (h2 : runE b = 0) (h3 : 0 ≤ m ∧ m ≤ 256) (h4 : 1 ≤ n ∧ n ≤ 4096) : mtcE a b m n = 0 := by
  unfold mtcE
  rw [firstS_cons, firstS_cons, firstS_cons, firstS_cons, withinS_zero, withinS_zero]
  exact ⟨h1, h2, h3, h4, rfl⟩
theorem difE_ok {a b : Rn} {s n : Int} (h1 : runE a = 0) (h2 : runE b = 0) (h3 : -256 ≤ s ∧ s ≤ 256) (h4 : 1 ≤ n ∧ n ≤ 4096) : difE a b s n = 0 := by
  unfold difE
  rw [firstS_cons, firstS_cons, firstS_cons, firstS_cons, withinS_zero, withinS_zero]
  exact ⟨h1, h2, h3, h4, rfl⟩
theorem difQ_of {a b : Rn} {s n : Int} (h : difE a b s n = 0) : difQ a b s n = if (dfR a b s).2 < n then ((0, 0), 7) else (lowS (dfR a b s), 0) := by
  unfold difQ
  rw [if_neg (by rw [h]; decide)]
theorem found_q {a : Rn} {d n : Int} (h : runE a = 0) (hn : 1 ≤ n ∧ n ≤ 4096) (hd : -100 ≤ d ∧ d ≤ 100) (h1 : 0 ≤ a.first + d) (h2 : a.first + d + (a.smp.length : Int) ≤ 100000000) :
    (mtcQ a (mvT a d) 100 n = (0, (0, 0), 7) ∧ knS a a.smp.length < n) ∨
    ∃ b, mtcQ a (mvT a d) 100 n = (b, (0, 1), 0) ∧ (-100 ≤ b ∧ b ≤ 100) ∧ max b (0 - b) ≤ max d (0 - d) ∧ (dfR a (mvT a d) b).1 = 0 := by
  have hz := mtcE_ok (m := 100) h (runE_moved h h1 h2) (by omega) hn
  have hQ : mtcQ a (mvT a d) 100 n = if (mtS (dfR a (mvT a d)) n 201).2.2 = 0 then (0, (0, 0), 7) else ((mtS (dfR a (mvT a d)) n 201).1, lowS (mtS (dfR a (mvT a d)) n 201).2, 0) := by
    unfold mtcQ
    rw [if_neg (by rw [hz]; decide)]
    rfl
  rw [hQ]
  rcases found_moved hn.1 hd with ⟨e, k⟩ | ⟨b, e, k1, k2, k3, k4⟩
  · rw [e, if_pos rfl]
    exact .inl ⟨rfl, k⟩
  · rw [e, if_neg (show ¬ (dfR a (mvT a d) b).2 = 0 by omega)]
    refine .inr ⟨b, ?_, k1, k4, k3⟩
    have hp : dfR a (mvT a d) b = (0, (dfR a (mvT a d) b).2) := Prod.ext k3 rfl
    dsimp only
    rw [hp, low_zero (by omega)]
theorem best_q {a b : Rn} {n s : Int} (va : VR a) (vb : VR b) (ha : runE a = 0) (hb : runE b = 0) (hl : a.smp.length ≤ 40) (hn : 1 ≤ n ∧ n ≤ 4096) (hs : -128 ≤ s ∧ s ≤ 127) :
    (mtcQ a b 128 n = (0, (0, 0), 7) ∧ difQ a b s n = ((0, 0), 7)) ∨
    ∃ k, mtcQ a b 128 n = (k, lowS (dfR a b k), 0) ∧ (-128 ≤ k ∧ k ≤ 128) ∧ difQ a b k n = (lowS (dfR a b k), 0) ∧ ((0 ≤ (dfR a b k).1 ∧ (dfR a b k).1 ≤ 999999999) ∧ 0 < (dfR a b k).2 ∧ (dfR a b k).2 ≤ 4096) ∧
      (difQ a b s n = ((0, 0), 7) ∨ (difQ a b s n = (lowS (dfR a b s), 0) ∧ ((0 ≤ (dfR a b s).1 ∧ (dfR a b s).1 ≤ 999999999) ∧ 0 < (dfR a b s).2 ∧ (dfR a b s).2 ≤ 4096) ∧ cmpS (lowS (dfR a b k)) (lowS (dfR a b s)) ≤ 0)) := by
  have hz := mtcE_ok (m := 128) ha hb (by omega) hn
  have hQ : mtcQ a b 128 n = if (mtS (dfR a b) n 257).2.2 = 0 then (0, (0, 0), 7) else ((mtS (dfR a b) n 257).1, lowS (mtS (dfR a b) n 257).2, 0) := by
    unfold mtcQ
    rw [if_neg (by rw [hz]; decide)]
    rfl
  have bnd : ∀ t, (0 ≤ (dfR a b t).1 ∧ (dfR a b t).1 ≤ 999999999) ∧ 0 ≤ (dfR a b t).2 ∧ (dfR a b t).2 ≤ 4096 := fun t => by
    have h := dfS_bound va vb t a.smp.length
    unfold dfR
    omega
  have bs := bnd s
  rw [hQ, difQ_of (difE_ok ha hb (show -256 ≤ s ∧ s ≤ 256 by omega) hn)]
  rcases best_le (a := a) (b := b) (s := s) hn.1 (by omega) with ⟨e, k⟩ | ⟨k, e, k1, k2, k3⟩
  · rw [e, if_pos rfl, if_pos k]
    exact .inl ⟨rfl, rfl⟩
  · have bk := bnd k
    rw [e, if_neg (show ¬ (dfR a b k).2 = 0 by omega)]
    refine .inr ⟨k, rfl, k1, ?_, by omega, ?_⟩
    · rw [difQ_of (difE_ok ha hb (show -256 ≤ k ∧ k ≤ 256 by omega) hn), if_neg (by omega)]
    · by_cases h : (dfR a b s).2 < n
      · exact .inl (if_pos h)
      · exact .inr ⟨if_neg h, by omega, k3 (by omega)⟩
theorem dif_sym {a b : Rn} {s n : Int} (ha : runE a = 0) (hb : runE b = 0) (hs : -256 ≤ s ∧ s ≤ 256) (hn : 1 ≤ n ∧ n ≤ 4096) : difQ b a (-s) n = difQ a b s n := by
  rw [show -s = 0 - s by omega, difQ_of (difE_ok ha hb hs hn), difQ_of (difE_ok hb ha (show -256 ≤ 0 - s ∧ 0 - s ≤ 256 by omega) hn), df_sym]
theorem part_null : partS 0 = 0 := by decide +kernel
theorem lim_null : limB 0 = false := by decide +kernel
theorem cut_null : cutW (x16 0) = 0 := by decide +kernel
theorem apart_q {a : Rn} {d b : Int} (h : runE a = 0) (h1 : 0 ≤ a.first + d) (h2 : a.first + d + (a.smp.length : Int) ≤ 100000000) (h3 : 0 ≤ a.first + d + b) (h4 : a.first + d + b + (a.smp.length : Int) ≤ 100000000) (hz : (dfR a (mvT a d) b).1 = 0) :
    apE a (mvT (mvT a d) b) 0 = 0 ∧ apR a (mvT (mvT a d) b) 0 = [] := by
  have e : apE a (mvT (mvT a d) b) 0 = 0 := by
    unfold apE
    rw [firstS_cons, firstS_cons, firstS_cons, firstS_cons, lim_null]
    exact ⟨h, runE_moved (t := mvT a d) (runE_moved h h1 h2) h3 h4, part_null, rfl, rfl⟩
  refine ⟨e, ?_⟩
  unfold apR
  rw [if_neg (by rw [e]; decide), cut_null]
  exact ap_none hz _ (Nat.le_refl _)

end Go.Proofs.YtoopgdchiljmiaaGreatDoor
