/- The law ChordLong: its run. -/
import Derived.Test.YtbpffadffbgloaaDoorRv
import Derived.Test.YtbpffadffbgloaaDoorRh
import Derived.Test.YtbpffadffbgloaaDoorTs
set_option linter.unusedVariables false
set_option linter.unusedSimpArgs false
namespace Go.Proofs.YtbpffadffbgloaaDoor
open Go.RowKit Go.Sym

/-- What the law asks of the readings by short and by long arms. -/
structure LongOk (b a s : Int) (t : Tr) : Prop where
  s2 : (VersinesS s s t).2 = 0
  sv : traceS (VersinesS s s t).1 = 0
  sl : (VersinesS s s t).1.vals.length ≤ 60 ∧ (VersinesS s s t).1.holes.length ≤ 60
  l2 : (LengthenedS b a s (VersinesS s s t).1).2 = 0
  ll : (LengthenedS b a s (VersinesS s s t).1).1.vals.length ≤ 60 ∧ (LengthenedS b a s (VersinesS s s t).1).1.holes.length ≤ 60
  d2 : (VersinesS (s * b) (s * a) t).2 = 0
  dl : (VersinesS (s * b) (s * a) t).1.vals.length ≤ 60 ∧ (VersinesS (s * b) (s * a) t).1.holes.length ≤ 60
  ag : agreeB (LengthenedS b a s (VersinesS s s t).1).1 (VersinesS (s * b) (s * a) t).1 = true
theorem chordS_small {b a : Int} (h : 1 ≤ b) (h2 : b ≤ 32) (h3 : 1 ≤ a) (h4 : a ≤ 32) : chordS b a = 0 := by
  unfold chordS
  rw [firstS_eq]
  intro x hx
  simp only [List.mem_cons, List.not_mem_nil, or_false] at hx
  rcases hx with rfl | rfl <;> rw [withinS_eq] <;> omega
theorem long_ok {b a s : Int} {t : Tr} (ht : traceS t = 0) (hl : t.vals.length ≤ 60) (b1 : 1 ≤ b) (b5 : b ≤ 5) (a1 : 1 ≤ a) (a5 : a ≤ 5) (s1 : 1 ≤ s) (s4 : s ≤ 4) (hv : ∀ x ∈ t.vals, -20000 ≤ x ∧ x ≤ 20000) (hn : s * (b + a) < t.vals.length) : LongOk b a s t := by
  obtain ⟨h1, h2, h3, h4, h5⟩ := long_agree (traceS_ok ht) b1 b5 a1 a5 s1 s4 hv hn
  have sb : 1 ≤ s * b ∧ s * b ≤ 20 ∧ 1 ≤ s * a ∧ s * a ≤ 20 := by
    obtain rfl | rfl | rfl | rfl : s = 1 ∨ s = 2 ∨ s = 3 ∨ s = 4 := by omega
    all_goals omega
  have e1 : VersinesS s s t = RVersinesS s s t := VersinesS_ok (chordS_small (by omega) (by omega) (by omega) (by omega)) ht
  have e2 : VersinesS (s * b) (s * a) t = RVersinesS (s * b) (s * a) t := VersinesS_ok (chordS_small (by omega) (by omega) (by omega) (by omega)) ht
  have e3 : LengthenedS b a s (RVersinesS s s t).1 = RWeightedS b a s (RVersinesS s s t).1 := by
    have e : firstS [chordS b a, withinS s 1 32, traceS (RVersinesS s s t).1] = 0 := first3_zero.2 ⟨chordS_small b1 (by omega) a1 (by omega), (withinS_eq _ _ _).2 (by omega), h2⟩
    unfold LengthenedS
    rw [if_neg (by rw [e]; decide)]
    exact weighted_same b a s _ b1 a1 s1
  have l1 := RVersinesS_len s s t (by omega) (by omega)
  have l2 := RVersinesS_len (s * b) (s * a) t (by omega) (by omega)
  have l3 := summedS_len (RVersinesS s s t).1.first (valuesS (RVersinesS s s t).1.vals (RVersinesS s s t).1.holes) (weightsS b a) ((b - 1) * s) ((a - 1) * s) s (Int.mul_nonneg (by omega) (by omega)) (Int.mul_nonneg (by omega) (by omega))
  rw [valuesS_len] at l3
  refine ⟨?_, ?_, ?_, ?_, ?_, ?_, ?_, ?_⟩ <;> (try rw [e1]) <;> (try rw [e2]) <;> (try rw [e3])
  · exact h1
  · exact h2
  · omega
  · exact h3
  · have e : RWeightedS b a s (RVersinesS s s t).1 = summedS (RVersinesS s s t).1.first (valuesS (RVersinesS s s t).1.vals (RVersinesS s s t).1.holes) (weightsS b a) ((b - 1) * s) ((a - 1) * s) s := rfl
    rw [e]; omega
  · exact h4
  · omega
  · exact h5

theorem WeightedS_len {b a : Int} {t : Tr} : WeightedS b a t = LengthenedS b a 1 t := by
  have e : ∀ x y : Int, firstS [x, withinS 1 1 32, y] = firstS [x, y] := by
    intro x y
    have : withinS 1 1 32 = 0 := by decide
    simp [firstS, this]
  unfold WeightedS LengthenedS
  rw [e]

theorem prod_small {m c : Int} (h0 : 0 ≤ m) (h1 : m ≤ 3) (c0 : 2 ≤ c) (c1 : c ≤ 10) : 0 ≤ (1 + m) * c ∧ (1 + m) * c ≤ 40 := by
  obtain rfl | rfl | rfl | rfl : m = 0 ∨ m = 1 ∨ m = 2 ∨ m = 3 := by omega
  all_goals omega
theorem prod_small2 {s b a : Int} (h0 : 1 ≤ s) (h1 : s ≤ 4) (b0 : 1 ≤ b) (b1 : b ≤ 5) (a0 : 1 ≤ a) (a1 : a ≤ 5) : 1 ≤ s * b ∧ s * b ≤ 20 ∧ 1 ≤ s * a ∧ s * a ≤ 20 := by
  obtain rfl | rfl | rfl | rfl : s = 1 ∨ s = 2 ∨ s = 3 ∨ s = 4 := by omega
  all_goals omega

def LLong_i (b a : Int) (t : Tr) (n : Int) : Inst := { f := 7, gl := powG, hin := lawIn t, args := [.agg [i64 b, i64 a], trA 1 2 t, .lit (.int .u8 n)], hout := [], ret := bl true, σ := [] }
set_option maxRecDepth 20000 in
set_option maxHeartbeats 8000000 in
theorem LLong_s (b a : Int) (t : Tr) (n : Int) (hv0 : t.vals.length ≤ 9223372036854775807) (hh0 : t.holes.length ≤ 9223372036854775807) (n0 : 0 ≤ n) (n1 : n ≤ 255) : (LLong_i b a t n).ok Tryd.prog := by
  unfold LLong_i Inst.ok; dsimp only; refine spec_of_body (tys := tys) 3 Tryd.func7 (by kernel_rfl) rfl tys_ok rfl (Nat.le_of_ble_eq_true rfl) (fun g i h => by simp only [List.mem_cons, List.not_mem_nil, or_false, Prod.mk.injEq] at h; omega) fun F hP hm hC => ?_; conv => whnf
  (repeat (first | (refine lwp_seq fun K hK => ?_) | (refine thenS_normal ?_; apply_assumption -exfalso -symm) | (refine thenS_exit ?_) | (refine thenS_ret ?_) | (refine inBlockS_normal ?_) | (refine inBlockS_ret ?_) | (refine inBlockS_hit rfl ?_) | (refine inBlockS_miss rfl ?_) | (refine lwp_block ?_) | (refine lwp_skip ?_) | (refine lwp_exit ?_) | (refine lwp_ret ?_) | (refine lwp_label ?_) | (refine lwp_region hC ⟨[], [], []⟩ (told0 _ _) rfl True.intro ?_) | (refine lwp_region hC ⟨[], [], []⟩ (told0 _ _) rfl (by ((try simp only [AllL, All, cd_p, cp_p, cv_p, InK, and_true, true_and]); all_goals ((repeat' (first | refine And.intro ?_ ?_ | intro _)) <;> first | omega | exact True.intro | assumption | (simp; done) | rfl | (simp_all; done) | (simp_all; omega)))) ?_)))
  cases hs : smallB b a t with
  | false =>
    (refine lwp_region hC ⟨[(4, { b := some true }), (5, { g := some false }), (6, { g := some false }), (7, { g := some false })], [], [(2, Small_i b a t [(0, some 1), (1, some 2)])]⟩ (told1 _ (by rw [hP]; exact (calls_cons (Small_s _ _ _ _ hv0 hh0) calls_nil))) rfl ?_ ?_; rotate_left 1)
    · (repeat (first | (refine lwp_seq fun K hK => ?_) | (refine thenS_normal ?_; apply_assumption -exfalso -symm) | (refine thenS_exit ?_) | (refine thenS_ret ?_) | (refine inBlockS_normal ?_) | (refine inBlockS_ret ?_) | (refine inBlockS_hit rfl ?_) | (refine inBlockS_miss rfl ?_) | (refine lwp_block ?_) | (refine lwp_skip ?_) | (refine lwp_exit ?_) | (refine lwp_ret ?_) | (refine lwp_label ?_) | (refine lwp_region hC ⟨[], [], []⟩ (told0 _ _) rfl True.intro ?_) | (refine lwp_region hC ⟨[], [], []⟩ (told0 _ _) rfl (by ((try simp only [AllL, All, cd_p, cp_p, cv_p, InK, and_true, true_and]); all_goals ((repeat' (first | refine And.intro ?_ ?_ | intro _)) <;> first | omega | exact True.intro | assumption | (simp; done) | rfl | (simp_all; done) | (simp_all; omega)))) ?_)))
      (refine lwp_cond hC rfl (by first | exact True.intro | ((try simp only [AllL, All, cd_p, cp_p, cv_p, InK, and_true, true_and]); all_goals ((repeat' (first | refine And.intro ?_ ?_ | intro _)) <;> first | omega | exact True.intro | assumption | (simp; done) | rfl | (simp_all; done) | (simp_all; omega)))) (fun hb => ?_) (fun hb => ?_) <;> (try simp only [decide_eq_true_eq, decide_eq_false_iff_not, Bool.not_eq_true', Bool.not_eq_false', ne_eq, Decidable.not_not] at hb))
      · (repeat (first | (refine lwp_seq fun K hK => ?_) | (refine thenS_normal ?_; apply_assumption -exfalso -symm) | (refine thenS_exit ?_) | (refine thenS_ret ?_) | (refine inBlockS_normal ?_) | (refine inBlockS_ret ?_) | (refine inBlockS_hit rfl ?_) | (refine inBlockS_miss rfl ?_) | (refine lwp_block ?_) | (refine lwp_skip ?_) | (refine lwp_exit ?_) | (refine lwp_ret ?_) | (refine lwp_label ?_) | (refine lwp_region hC ⟨[], [], []⟩ (told0 _ _) rfl True.intro ?_) | (refine lwp_region hC ⟨[], [], []⟩ (told0 _ _) rfl (by ((try simp only [AllL, All, cd_p, cp_p, cv_p, InK, and_true, true_and]); all_goals ((repeat' (first | refine And.intro ?_ ?_ | intro _)) <;> first | omega | exact True.intro | assumption | (simp; done) | rfl | (simp_all; done) | (simp_all; omega)))) ?_)))
        (refine lwp_region hC ⟨[], [], [(0, Awake_i [(0, some 0)])]⟩ (told1 _ (by rw [hP]; exact (calls_cons (Awake_s _) calls_nil))) rfl ?_ ?_; rotate_left 1)
        · (repeat (first | (refine lwp_seq fun K hK => ?_) | (refine thenS_normal ?_; apply_assumption -exfalso -symm) | (refine thenS_exit ?_) | (refine thenS_ret ?_) | (refine inBlockS_normal ?_) | (refine inBlockS_ret ?_) | (refine inBlockS_hit rfl ?_) | (refine inBlockS_miss rfl ?_) | (refine lwp_block ?_) | (refine lwp_skip ?_) | (refine lwp_exit ?_) | (refine lwp_ret ?_) | (refine lwp_label ?_) | (refine lwp_region hC ⟨[], [], []⟩ (told0 _ _) rfl True.intro ?_) | (refine lwp_region hC ⟨[], [], []⟩ (told0 _ _) rfl (by ((try simp only [AllL, All, cd_p, cp_p, cv_p, InK, and_true, true_and]); all_goals ((repeat' (first | refine And.intro ?_ ?_ | intro _)) <;> first | omega | exact True.intro | assumption | (simp; done) | rfl | (simp_all; done) | (simp_all; omega)))) ?_)))
          (refine end_intro (by first | exact .inr rfl | exact .inl rfl) [] rfl ?_)
          ((try simp only [AllL, All, cd_p, cp_p, cv_p, InK, and_true, true_and]); all_goals ((repeat' (first | refine And.intro ?_ ?_ | intro _)) <;> first | omega | exact True.intro | assumption | (simp; done) | rfl | (simp_all; done) | (simp_all; omega)))
        · ((try simp only [AllL, All, cd_p, cp_p, cv_p, InK, and_true, true_and]); all_goals ((repeat' (first | refine And.intro ?_ ?_ | intro _)) <;> first | omega | exact True.intro | assumption | (simp; done) | rfl | (simp_all; done) | (simp_all; omega)))
      · exact absurd hb (by simp)
    · (simp only [AllL, All, cd_p, cp_p, cv_p, hs, Bool.not_false, spC_nil, intsC_nil, List.length_nil, and_self, cond_true]) <;> simp
  | true =>
    (refine lwp_region hC ⟨[(4, { b := some false })], [], [(2, Small_i b a t [(0, some 1), (1, some 2)])]⟩ (told1 _ (by rw [hP]; exact (calls_cons (Small_s _ _ _ _ hv0 hh0) calls_nil))) rfl ?_ ?_; rotate_left 1)
    · (repeat (first | (refine lwp_seq fun K hK => ?_) | (refine thenS_normal ?_; apply_assumption -exfalso -symm) | (refine thenS_exit ?_) | (refine thenS_ret ?_) | (refine inBlockS_normal ?_) | (refine inBlockS_ret ?_) | (refine inBlockS_hit rfl ?_) | (refine inBlockS_miss rfl ?_) | (refine lwp_block ?_) | (refine lwp_skip ?_) | (refine lwp_exit ?_) | (refine lwp_ret ?_) | (refine lwp_label ?_) | (refine lwp_region hC ⟨[], [], []⟩ (told0 _ _) rfl True.intro ?_) | (refine lwp_region hC ⟨[], [], []⟩ (told0 _ _) rfl (by ((try simp only [AllL, All, cd_p, cp_p, cv_p, InK, and_true, true_and]); all_goals ((repeat' (first | refine And.intro ?_ ?_ | intro _)) <;> first | omega | exact True.intro | assumption | (simp; done) | rfl | (simp_all; done) | (simp_all; omega)))) ?_)))
      (refine lwp_cond hC rfl (by first | exact True.intro | ((try simp only [AllL, All, cd_p, cp_p, cv_p, InK, and_true, true_and]); all_goals ((repeat' (first | refine And.intro ?_ ?_ | intro _)) <;> first | omega | exact True.intro | assumption | (simp; done) | rfl | (simp_all; done) | (simp_all; omega)))) (fun hb => ?_) (fun hb => ?_) <;> (try simp only [decide_eq_true_eq, decide_eq_false_iff_not, Bool.not_eq_true', Bool.not_eq_false', ne_eq, Decidable.not_not] at hb))
      · (repeat (first | (refine lwp_seq fun K hK => ?_) | (refine thenS_normal ?_; apply_assumption -exfalso -symm) | (refine thenS_exit ?_) | (refine thenS_ret ?_) | (refine inBlockS_normal ?_) | (refine inBlockS_ret ?_) | (refine inBlockS_hit rfl ?_) | (refine inBlockS_miss rfl ?_) | (refine lwp_block ?_) | (refine lwp_skip ?_) | (refine lwp_exit ?_) | (refine lwp_ret ?_) | (refine lwp_label ?_) | (refine lwp_region hC ⟨[], [], []⟩ (told0 _ _) rfl True.intro ?_) | (refine lwp_region hC ⟨[], [], []⟩ (told0 _ _) rfl (by ((try simp only [AllL, All, cd_p, cp_p, cv_p, InK, and_true, true_and]); all_goals ((repeat' (first | refine And.intro ?_ ?_ | intro _)) <;> first | omega | exact True.intro | assumption | (simp; done) | rfl | (simp_all; done) | (simp_all; omega)))) ?_)))
        (refine lwp_region hC ⟨[], [], [(0, Awake_i [(0, some 0)])]⟩ (told1 _ (by rw [hP]; exact (calls_cons (Awake_s _) calls_nil))) rfl ?_ ?_; rotate_left 1)
        · (repeat (first | (refine lwp_seq fun K hK => ?_) | (refine thenS_normal ?_; apply_assumption -exfalso -symm) | (refine thenS_exit ?_) | (refine thenS_ret ?_) | (refine inBlockS_normal ?_) | (refine inBlockS_ret ?_) | (refine inBlockS_hit rfl ?_) | (refine inBlockS_miss rfl ?_) | (refine lwp_block ?_) | (refine lwp_skip ?_) | (refine lwp_exit ?_) | (refine lwp_ret ?_) | (refine lwp_label ?_) | (refine lwp_region hC ⟨[], [], []⟩ (told0 _ _) rfl True.intro ?_) | (refine lwp_region hC ⟨[], [], []⟩ (told0 _ _) rfl (by ((try simp only [AllL, All, cd_p, cp_p, cv_p, InK, and_true, true_and]); all_goals ((repeat' (first | refine And.intro ?_ ?_ | intro _)) <;> first | omega | exact True.intro | assumption | (simp; done) | rfl | (simp_all; done) | (simp_all; omega)))) ?_)))
          (refine end_intro (by first | exact .inr rfl | exact .inl rfl) [] rfl ?_)
          ((try simp only [AllL, All, cd_p, cp_p, cv_p, InK, and_true, true_and]); all_goals ((repeat' (first | refine And.intro ?_ ?_ | intro _)) <;> first | omega | exact True.intro | assumption | (simp; done) | rfl | (simp_all; done) | (simp_all; omega)))
        · ((try simp only [AllL, All, cd_p, cp_p, cv_p, InK, and_true, true_and]); all_goals ((repeat' (first | refine And.intro ?_ ?_ | intro _)) <;> first | omega | exact True.intro | assumption | (simp; done) | rfl | (simp_all; done) | (simp_all; omega)))
      · obtain ⟨⟨hc, ht, hl, hn⟩, hv⟩ := smallB_ok hs
        have hco := chordS_ok hc
        have hb5 : b ≤ 5 ∧ a ≤ 5 := by
          simp only [bif_or, Bool.or_eq_false_iff, decide_eq_false_iff_not] at hb
          omega
        clear hb hv0 hh0
        have hok := traceS_ok ht
        have hhc := holes_count ht
        obtain ⟨s2, sv, sl, l2, ll, d2, dl, ag⟩ := long_ok (s := 1) ht hl hco.1.1 hb5.1 hco.2.1 hb5.2 (by omega) (by omega) hv (by omega)
        simp only [Int.one_mul] at d2 dl ag
        rw [← WeightedS_len] at l2 ll ag
        have hW : WeightsS b a = weightsS b a := by unfold WeightsS; rw [if_pos hc]
        have hWl : (weightsS b a).length = (b + a - 1).toNat := weightsS_len b a
        have hWs := weights_sum b a hco.1.1 hb5.1 hco.2.1 hb5.2
        have hWb := weightsS_small b a hco.1.1 hco.1.2 hco.2.1 hco.2.2
        (repeat (first | (refine lwp_seq fun K hK => ?_) | (refine thenS_normal ?_; apply_assumption -exfalso -symm) | (refine thenS_exit ?_) | (refine thenS_ret ?_) | (refine inBlockS_normal ?_) | (refine inBlockS_ret ?_) | (refine inBlockS_hit rfl ?_) | (refine inBlockS_miss rfl ?_) | (refine lwp_block ?_) | (refine lwp_skip ?_) | (refine lwp_exit ?_) | (refine lwp_ret ?_) | (refine lwp_label ?_) | (refine lwp_region hC ⟨[], [], []⟩ (told0 _ _) rfl True.intro ?_) | (refine lwp_region hC ⟨[], [], []⟩ (told0 _ _) rfl (by ((try simp only [AllL, All, cd_p, cp_p, cv_p, InK, and_true, true_and]); all_goals ((repeat' (first | refine And.intro ?_ ?_ | intro _)) <;> first | omega | exact True.intro | assumption | (simp; done) | rfl | (simp_all; done) | (simp_all; omega)))) ?_)))
        (refine lwp_region hC ⟨[], [], [(1, LOwn_i t [(0, some 1), (1, some 2)]), (2, PCurvature_i t [(0, some 5), (1, some 6)])]⟩ (told1 _ (by rw [hP]; exact (calls_cons (LOwn_s _ _ (by omega) (by omega)) (calls_cons (PCurvature_s _ _) calls_nil)))) rfl ?_ ?_; rotate_left 1)
        · (repeat (first | (refine lwp_seq fun K hK => ?_) | (refine thenS_normal ?_; apply_assumption -exfalso -symm) | (refine thenS_exit ?_) | (refine thenS_ret ?_) | (refine inBlockS_normal ?_) | (refine inBlockS_ret ?_) | (refine inBlockS_hit rfl ?_) | (refine inBlockS_miss rfl ?_) | (refine lwp_block ?_) | (refine lwp_skip ?_) | (refine lwp_exit ?_) | (refine lwp_ret ?_) | (refine lwp_label ?_) | (refine lwp_region hC ⟨[], [], []⟩ (told0 _ _) rfl True.intro ?_) | (refine lwp_region hC ⟨[], [], []⟩ (told0 _ _) rfl (by ((try simp only [AllL, All, cd_p, cp_p, cv_p, InK, and_true, true_and]); all_goals ((repeat' (first | refine And.intro ?_ ?_ | intro _)) <;> first | omega | exact True.intro | assumption | (simp; done) | rfl | (simp_all; done) | (simp_all; omega)))) ?_)))
          (refine lwp_region hC ⟨[], [], [(1, PWeights_i b a)]⟩ (told1 _ (by rw [hP]; exact (calls_cons (PWeights_s _ _) calls_nil))) rfl ?_ ?_; rotate_left 1)
          · (repeat (first | (refine lwp_seq fun K hK => ?_) | (refine thenS_normal ?_; apply_assumption -exfalso -symm) | (refine thenS_exit ?_) | (refine thenS_ret ?_) | (refine inBlockS_normal ?_) | (refine inBlockS_ret ?_) | (refine inBlockS_hit rfl ?_) | (refine inBlockS_miss rfl ?_) | (refine lwp_block ?_) | (refine lwp_skip ?_) | (refine lwp_exit ?_) | (refine lwp_ret ?_) | (refine lwp_label ?_) | (refine lwp_region hC ⟨[], [], []⟩ (told0 _ _) rfl True.intro ?_) | (refine lwp_region hC ⟨[], [], []⟩ (told0 _ _) rfl (by ((try simp only [AllL, All, cd_p, cp_p, cv_p, InK, and_true, true_and]); all_goals ((repeat' (first | refine And.intro ?_ ?_ | intro _)) <;> first | omega | exact True.intro | assumption | (simp; done) | rfl | (simp_all; done) | (simp_all; omega)))) ?_)))
            (refine lwp_drawn2 hC (by rw [hP]; exact mixed) ⟨[], [], [(2, LOwn_i t [(0, some 1), (1, some 2)]), (3, PVersines_i b a t [(0, some 12), (1, some 13)])]⟩ (told1 _ (by rw [hP]; exact (calls_cons (LOwn_s _ _ (by omega) (by omega)) (calls_cons (PVersines_s _ _ _ _) calls_nil)))) [0, 0, 2, 7, 15, 31, 31, 0, 191, 511] 8 64 rfl ?_ ?_; rotate_left 1)
            · rw [hW]
              clear hW
              generalize hX : WeightedS b a (VersinesS 1 1 t).1 = X at *
              generalize VersinesS 1 1 t = Cu at *
              generalize VersinesS b a t = V at *
              generalize weightsS b a = W at *
              have HWB := Lib.hid hWb
              have HWS := Lib.hid hWs
              clear hWb hWs
              (repeat (first | (refine lwp_seq fun K hK => ?_) | (refine thenS_normal ?_; apply_assumption -exfalso -symm) | (refine thenS_exit ?_) | (refine thenS_ret ?_) | (refine inBlockS_normal ?_) | (refine inBlockS_ret ?_) | (refine inBlockS_hit rfl ?_) | (refine inBlockS_miss rfl ?_) | (refine lwp_block ?_) | (refine lwp_skip ?_) | (refine lwp_exit ?_) | (refine lwp_ret ?_) | (refine lwp_label ?_) | (refine lwp_region hC ⟨[], [], []⟩ (told0 _ _) rfl True.intro ?_) | (refine lwp_region hC ⟨[], [], []⟩ (told0 _ _) rfl (by ((try simp only [AllL, All, cd_p, cp_p, cv_p, InK, and_true, true_and]); all_goals ((repeat' (first | refine And.intro ?_ ?_ | intro _)) <;> first | omega | exact True.intro | assumption | (simp; done) | rfl | (simp_all; done) | (simp_all; omega)))) ?_)))
              (refine lwp_cond hC rfl (by first | exact True.intro | ((try simp only [AllL, All, cd_p, cp_p, cv_p, InK, and_true, true_and]); all_goals ((repeat' (first | refine And.intro ?_ ?_ | intro _)) <;> first | omega | exact True.intro | assumption | (simp; done) | rfl | (simp_all; done) | (simp_all; omega)))) (fun hb => ?_) (fun hb => ?_) <;> (try simp only [decide_eq_true_eq, decide_eq_false_iff_not, Bool.not_eq_true', Bool.not_eq_false', ne_eq, Decidable.not_not] at hb))
              · simp only [bif_or, Bool.or_eq_true, decide_eq_true_eq] at hb
                omega
              · clear hb
                (repeat (first | (refine lwp_seq fun K hK => ?_) | (refine thenS_normal ?_; apply_assumption -exfalso -symm) | (refine thenS_exit ?_) | (refine thenS_ret ?_) | (refine inBlockS_normal ?_) | (refine inBlockS_ret ?_) | (refine inBlockS_hit rfl ?_) | (refine inBlockS_miss rfl ?_) | (refine lwp_block ?_) | (refine lwp_skip ?_) | (refine lwp_exit ?_) | (refine lwp_ret ?_) | (refine lwp_label ?_) | (refine lwp_region hC ⟨[], [], []⟩ (told0 _ _) rfl True.intro ?_) | (refine lwp_region hC ⟨[], [], []⟩ (told0 _ _) rfl (by ((try simp only [AllL, All, cd_p, cp_p, cv_p, InK, and_true, true_and]); all_goals ((repeat' (first | refine And.intro ?_ ?_ | intro _)) <;> first | omega | exact True.intro | assumption | (simp; done) | rfl | (simp_all; done) | (simp_all; omega)))) ?_)))
                (refine lwp_drawn2 hC (by rw [hP]; exact mixed) ⟨[], [], [(2, Told_i Cu.1 [(0, some 7), (1, some 8)]), (3, LOwn_i Cu.1 [(0, some 7), (1, some 8)]), (4, PWeighted_i b a Cu.1 [(0, some 18), (1, some 19)])]⟩ (told1 _ (by rw [hP]; exact (calls_cons (Told_s _ _) (calls_cons (LOwn_s _ _ (by omega) (by omega)) (calls_cons (PWeighted_s _ _ _ _) calls_nil))))) [0, 0, 2, 6, 15, 31, 63, 63, 0, 383, 1023] 9 128 rfl ?_ ?_; rotate_left 1)
                · rw [hX]
                  clear hX
                  (repeat (first | (refine lwp_seq fun K hK => ?_) | (refine thenS_normal ?_; apply_assumption -exfalso -symm) | (refine thenS_exit ?_) | (refine thenS_ret ?_) | (refine inBlockS_normal ?_) | (refine inBlockS_ret ?_) | (refine inBlockS_hit rfl ?_) | (refine inBlockS_miss rfl ?_) | (refine lwp_block ?_) | (refine lwp_skip ?_) | (refine lwp_exit ?_) | (refine lwp_ret ?_) | (refine lwp_label ?_) | (refine lwp_region hC ⟨[], [], []⟩ (told0 _ _) rfl True.intro ?_) | (refine lwp_region hC ⟨[], [], []⟩ (told0 _ _) rfl (by ((try simp only [AllL, All, cd_p, cp_p, cv_p, InK, and_true, true_and]); all_goals ((repeat' (first | refine And.intro ?_ ?_ | intro _)) <;> first | omega | exact True.intro | assumption | (simp; done) | rfl | (simp_all; done) | (simp_all; omega)))) ?_)))
                  refine lwp_loop (fun k : Nat => ⟨[(85, i64 k), (84, i64 W.length), (83, .sl 11 W.length), (15, i64 (sumI (W.take k))), (14, i64 X.2), (13, .ptr 22 0 0 0), (11, .ptr 16 0 0 0), (4, .ptr 4 0 0 0), (3, .ptr 3 0 0 0), (2, .lit (.int .u8 n))], [(22, .blk 30 [i64 X.1.first, .sl 20 X.1.vals.length, .sl 21 X.1.holes.length]), (20, .ro X.1.vals.length 1 (.ints .i64 X.1.vals)), (21, .ro X.1.holes.length 2 (spC X.1.holes)), (16, .blk 30 [i64 V.1.first, .sl 14 V.1.vals.length, .sl 15 V.1.holes.length]), (14, .ro V.1.vals.length 1 (.ints .i64 V.1.vals)), (15, .ro V.1.holes.length 2 (spC V.1.holes)), (11, .row 3 W.length 1 (.ints .i64 W)), (4, .blk 27 [i64 t.first, .sl 1 t.vals.length, .sl 2 t.holes.length]), (3, .blk 23 [i64 b, i64 a]), (0, powC), (1, .ro t.vals.length 1 (.ints .i64 t.vals)), (2, .ro t.holes.length 2 (spC t.holes))], 24⟩) (fun k => k ≤ W.length) (fun k => W.length - k) 0 ⟨?_, sub_intro hm [(0, some 0), (1, some 1), (2, some 2), (3, some 3), (4, some 4), (11, some 11), (14, some 14), (15, some 15), (16, some 16), (20, some 20), (21, some 21), (22, some 22)] rfl ?_⟩ ?_
                  · exact Nat.zero_le _
                  · ((try simp only [AllL, All, cd_p, cp_p, cv_p, InK, and_true, true_and]); all_goals ((repeat' (first | refine And.intro ?_ ?_ | intro _)) <;> first | omega | exact True.intro | assumption | (simp; done) | rfl | (simp_all; done) | (simp_all; omega)))
                  · rintro k hk
                    have hkk : ((k : Int)).toNat = k := Int.toNat_natCast k
                    (repeat (first | (refine lwp_seq fun K hK => ?_) | (refine thenS_normal ?_; apply_assumption -exfalso -symm) | (refine thenS_exit ?_) | (refine thenS_ret ?_) | (refine inBlockS_normal ?_) | (refine inBlockS_ret ?_) | (refine inBlockS_hit rfl ?_) | (refine inBlockS_miss rfl ?_) | (refine lwp_block ?_) | (refine lwp_skip ?_) | (refine lwp_exit ?_) | (refine lwp_ret ?_) | (refine lwp_label ?_) | (refine lwp_region hC ⟨[], [], []⟩ (told0 _ _) rfl True.intro ?_) | (refine lwp_region hC ⟨[], [], []⟩ (told0 _ _) rfl (by ((try simp only [AllL, All, cd_p, cp_p, cv_p, InK, and_true, true_and]); all_goals ((repeat' (first | refine And.intro ?_ ?_ | intro _)) <;> first | omega | exact True.intro | assumption | (simp; done) | rfl | (simp_all; done) | (simp_all; omega)))) ?_)))
                    (refine lwp_cond hC rfl (by first | exact True.intro | ((try simp only [AllL, All, cd_p, cp_p, cv_p, InK, and_true, true_and]); all_goals ((repeat' (first | refine And.intro ?_ ?_ | intro _)) <;> first | omega | exact True.intro | assumption | (simp; done) | rfl | (simp_all; done) | (simp_all; omega)))) (fun hb => ?_) (fun hb => ?_) <;> (try simp only [decide_eq_true_eq, decide_eq_false_iff_not, Bool.not_eq_true', Bool.not_eq_false', ne_eq, Decidable.not_not] at hb))
                    · have hk2 : k < W.length := by omega
                      have q1 := HWB.out k
                      have q2 := sumI_take HWB.out k hk
                      have hsn : sumI (W.take (k + 1)) = sumI (W.take k) + W.getD k 0 := by rw [take_snoc _ 0 _ hk2, sumI_snoc]
                      have HSN := Lib.hid hsn
                      clear hsn
                      (repeat (first | (refine lwp_seq fun K hK => ?_) | (refine thenS_normal ?_; apply_assumption -exfalso -symm) | (refine thenS_exit ?_) | (refine thenS_ret ?_) | (refine inBlockS_normal ?_) | (refine inBlockS_ret ?_) | (refine inBlockS_hit rfl ?_) | (refine inBlockS_miss rfl ?_) | (refine lwp_block ?_) | (refine lwp_skip ?_) | (refine lwp_exit ?_) | (refine lwp_ret ?_) | (refine lwp_label ?_) | (refine lwp_region hC ⟨[], [], []⟩ (told0 _ _) rfl True.intro ?_) | (refine lwp_region hC ⟨[], [], []⟩ (told0 _ _) rfl (by ((try simp only [AllL, All, cd_p, cp_p, cv_p, InK, and_true, true_and]); all_goals ((repeat' (first | refine And.intro ?_ ?_ | intro _)) <;> first | omega | exact True.intro | assumption | (simp; done) | rfl | (simp_all; done) | (simp_all; omega)))) ?_)))
                      refine thenS_normal ⟨k + 1, ?_, ?_, sub_intro hm [(0, some 0), (1, some 1), (2, some 2), (3, some 3), (4, some 4), (11, some 11), (14, some 14), (15, some 15), (16, some 16), (20, some 20), (21, some 21), (22, some 22)] rfl ?_⟩
                      · omega
                      · omega
                      · rw [HSN.out]
                        simp only [All, cd_p, cp_p, cv_p, hkk]
                        (repeat' refine And.intro ?_ ?_) <;> first | omega | trivial | rfl
                    · have hk3 : k = W.length := by omega
                      subst hk3
                      rw [List.take_length]
                      have hsm := HWS.out
                      have hbb : b * a * (b + a) ≤ 250 ∧ 0 ≤ b * a * (b + a) ∧ 0 ≤ b * a ∧ b * a ≤ 25 := by
                        obtain ⟨⟨p1, _⟩, p3, _⟩ := hco
                        obtain ⟨p2, p4⟩ := hb5
                        obtain rfl | rfl | rfl | rfl | rfl : b = 1 ∨ b = 2 ∨ b = 3 ∨ b = 4 ∨ b = 5 := by omega
                        all_goals obtain rfl | rfl | rfl | rfl | rfl : a = 1 ∨ a = 2 ∨ a = 3 ∨ a = 4 ∨ a = 5 := by omega
                        all_goals decide
                      generalize sumI W = SW at *
                      (repeat (first | (refine lwp_seq fun K hK => ?_) | (refine thenS_normal ?_; apply_assumption -exfalso -symm) | (refine thenS_exit ?_) | (refine thenS_ret ?_) | (refine inBlockS_normal ?_) | (refine inBlockS_ret ?_) | (refine inBlockS_hit rfl ?_) | (refine inBlockS_miss rfl ?_) | (refine lwp_block ?_) | (refine lwp_skip ?_) | (refine lwp_exit ?_) | (refine lwp_ret ?_) | (refine lwp_label ?_) | (refine lwp_region hC ⟨[], [], []⟩ (told0 _ _) rfl True.intro ?_) | (refine lwp_region hC ⟨[], [], []⟩ (told0 _ _) rfl (by ((try simp only [AllL, All, cd_p, cp_p, cv_p, InK, and_true, true_and]); all_goals ((repeat' (first | refine And.intro ?_ ?_ | intro _)) <;> first | omega | exact True.intro | assumption | (simp; done) | rfl | (simp_all; done) | (simp_all; omega)))) ?_)))
                      (refine lwp_drawn2 hC (by rw [hP]; exact mixed) ⟨[(2, { b := some false }), (18, { b := some false })], [], [(20, Told_i X.1 [(0, some 20), (1, some 21)]), (22, Told_i V.1 [(0, some 14), (1, some 15)]), (23, Agree_i X.1 V.1 [(0, some 20), (1, some 21), (2, some 14), (3, some 15)])]⟩ (told1 _ (by rw [hP]; exact (calls_cons (Told_s _ _) (calls_cons (Told_s _ _) (calls_cons (Agree_s _ _ _ (by omega) (by omega) (by omega) (by omega)) calls_nil))))) [0, 1, 3, 7, 15, 7, 39, 7, 135, 487, 7, 1031, 7, 4103, 15367, 32743, 65535, 131071, 262143, 524287, 1048575, 524287, 4194303, 8388607, 16777215, 33554431] 26 0 rfl ?_ ?_; rotate_left 1)
                      · (repeat (first | (refine lwp_seq fun K hK => ?_) | (refine thenS_normal ?_; apply_assumption -exfalso -symm) | (refine thenS_exit ?_) | (refine thenS_ret ?_) | (refine inBlockS_normal ?_) | (refine inBlockS_ret ?_) | (refine inBlockS_hit rfl ?_) | (refine inBlockS_miss rfl ?_) | (refine lwp_block ?_) | (refine lwp_skip ?_) | (refine lwp_exit ?_) | (refine lwp_ret ?_) | (refine lwp_label ?_) | (refine lwp_region hC ⟨[], [], []⟩ (told0 _ _) rfl True.intro ?_) | (refine lwp_region hC ⟨[], [], []⟩ (told0 _ _) rfl (by ((try simp only [AllL, All, cd_p, cp_p, cv_p, InK, and_true, true_and]); all_goals ((repeat' (first | refine And.intro ?_ ?_ | intro _)) <;> first | omega | exact True.intro | assumption | (simp; done) | rfl | (simp_all; done) | (simp_all; omega)))) ?_)))
                        (refine lwp_cond hC rfl (by first | exact True.intro | ((try simp only [AllL, All, cd_p, cp_p, cv_p, InK, and_true, true_and]); all_goals ((repeat' (first | refine And.intro ?_ ?_ | intro _)) <;> first | omega | exact True.intro | assumption | (simp; done) | rfl | (simp_all; done) | (simp_all; omega)))) (fun hb => ?_) (fun hb => ?_) <;> (try simp only [decide_eq_true_eq, decide_eq_false_iff_not, Bool.not_eq_true', Bool.not_eq_false', ne_eq, Decidable.not_not] at hb))
                        · simp [ag] at hb
                        · clear hb
                          have hm4 : 0 ≤ n.tmod 4 ∧ n.tmod 4 ≤ 3 := by rw [Int.tmod_eq_emod_of_nonneg n0]; omega
                          have hpr := prod_small (m := n.tmod 4) (c := b + a) hm4.1 hm4.2 (by omega) (by omega)
                          (repeat (first | (refine lwp_seq fun K hK => ?_) | (refine thenS_normal ?_; apply_assumption -exfalso -symm) | (refine thenS_exit ?_) | (refine thenS_ret ?_) | (refine inBlockS_normal ?_) | (refine inBlockS_ret ?_) | (refine inBlockS_hit rfl ?_) | (refine inBlockS_miss rfl ?_) | (refine lwp_block ?_) | (refine lwp_skip ?_) | (refine lwp_exit ?_) | (refine lwp_ret ?_) | (refine lwp_label ?_) | (refine lwp_region hC ⟨[], [], []⟩ (told0 _ _) rfl True.intro ?_) | (refine lwp_region hC ⟨[], [], []⟩ (told0 _ _) rfl (by ((try simp only [AllL, All, cd_p, cp_p, cv_p, InK, and_true, true_and]); all_goals ((repeat' (first | refine And.intro ?_ ?_ | intro _)) <;> first | omega | exact True.intro | assumption | (simp; done) | rfl | (simp_all; done) | (simp_all; omega)))) ?_)))
                          generalize hSS : 1 + n.tmod 4 = S at *
                          have hS4 : 1 ≤ S ∧ S ≤ 4 := by omega
                          (refine lwp_cond hC rfl (by first | exact True.intro | ((try simp only [AllL, All, cd_p, cp_p, cv_p, InK, and_true, true_and]); all_goals ((repeat' (first | refine And.intro ?_ ?_ | intro _)) <;> first | omega | exact True.intro | assumption | (simp; done) | rfl | (simp_all; done) | (simp_all; omega)))) (fun hb => ?_) (fun hb => ?_) <;> (try simp only [decide_eq_true_eq, decide_eq_false_iff_not, Bool.not_eq_true', Bool.not_eq_false', ne_eq, Decidable.not_not] at hb))
                          · (repeat (first | (refine lwp_seq fun K hK => ?_) | (refine thenS_normal ?_; apply_assumption -exfalso -symm) | (refine thenS_exit ?_) | (refine thenS_ret ?_) | (refine inBlockS_normal ?_) | (refine inBlockS_ret ?_) | (refine inBlockS_hit rfl ?_) | (refine inBlockS_miss rfl ?_) | (refine lwp_block ?_) | (refine lwp_skip ?_) | (refine lwp_exit ?_) | (refine lwp_ret ?_) | (refine lwp_label ?_) | (refine lwp_region hC ⟨[], [], []⟩ (told0 _ _) rfl True.intro ?_) | (refine lwp_region hC ⟨[], [], []⟩ (told0 _ _) rfl (by ((try simp only [AllL, All, cd_p, cp_p, cv_p, InK, and_true, true_and]); all_goals ((repeat' (first | refine And.intro ?_ ?_ | intro _)) <;> first | omega | exact True.intro | assumption | (simp; done) | rfl | (simp_all; done) | (simp_all; omega)))) ?_)))
                            (refine lwp_region hC ⟨[], [], [(0, Awake_i [(0, some 0)])]⟩ (told1 _ (by rw [hP]; exact (calls_cons (Awake_s _) calls_nil))) rfl ?_ ?_; rotate_left 1)
                            · (repeat (first | (refine lwp_seq fun K hK => ?_) | (refine thenS_normal ?_; apply_assumption -exfalso -symm) | (refine thenS_exit ?_) | (refine thenS_ret ?_) | (refine inBlockS_normal ?_) | (refine inBlockS_ret ?_) | (refine inBlockS_hit rfl ?_) | (refine inBlockS_miss rfl ?_) | (refine lwp_block ?_) | (refine lwp_skip ?_) | (refine lwp_exit ?_) | (refine lwp_ret ?_) | (refine lwp_label ?_) | (refine lwp_region hC ⟨[], [], []⟩ (told0 _ _) rfl True.intro ?_) | (refine lwp_region hC ⟨[], [], []⟩ (told0 _ _) rfl (by ((try simp only [AllL, All, cd_p, cp_p, cv_p, InK, and_true, true_and]); all_goals ((repeat' (first | refine And.intro ?_ ?_ | intro _)) <;> first | omega | exact True.intro | assumption | (simp; done) | rfl | (simp_all; done) | (simp_all; omega)))) ?_)))
                              (refine end_intro (by first | exact .inr rfl | exact .inl rfl) [] rfl ?_)
                              ((try simp only [AllL, All, cd_p, cp_p, cv_p, InK, and_true, true_and]); all_goals ((repeat' (first | refine And.intro ?_ ?_ | intro _)) <;> first | omega | exact True.intro | assumption | (simp; done) | rfl | (simp_all; done) | (simp_all; omega)))
                            · ((try simp only [AllL, All, cd_p, cp_p, cv_p, InK, and_true, true_and]); all_goals ((repeat' (first | refine And.intro ?_ ?_ | intro _)) <;> first | omega | exact True.intro | assumption | (simp; done) | rfl | (simp_all; done) | (simp_all; omega)))
                          · have hlen : S * (b + a) < t.vals.length := by
                              simp only [bif_or, Bool.or_eq_false_iff, decide_eq_false_iff_not] at hb
                              omega
                            clear hb l2 ll d2 dl ag s2 sv sl hsm HWS
                            have hpa : 1 ≤ S * b ∧ S * b ≤ 20 ∧ 1 ≤ S * a ∧ S * a ≤ 20 := prod_small2 hS4.1 hS4.2 hco.1.1 hb5.1 hco.2.1 hb5.2
                            obtain ⟨s2, sv, sl, l2, ll, d2, dl, ag⟩ := long_ok (s := S) ht hl hco.1.1 hb5.1 hco.2.1 hb5.2 hS4.1 hS4.2 hv hlen
                            (repeat (first | (refine lwp_seq fun K hK => ?_) | (refine thenS_normal ?_; apply_assumption -exfalso -symm) | (refine thenS_exit ?_) | (refine thenS_ret ?_) | (refine inBlockS_normal ?_) | (refine inBlockS_ret ?_) | (refine inBlockS_hit rfl ?_) | (refine inBlockS_miss rfl ?_) | (refine lwp_block ?_) | (refine lwp_skip ?_) | (refine lwp_exit ?_) | (refine lwp_ret ?_) | (refine lwp_label ?_) | (refine lwp_region hC ⟨[], [], []⟩ (told0 _ _) rfl True.intro ?_) | (refine lwp_region hC ⟨[], [], []⟩ (told0 _ _) rfl (by ((try simp only [AllL, All, cd_p, cp_p, cv_p, InK, and_true, true_and]); all_goals ((repeat' (first | refine And.intro ?_ ?_ | intro _)) <;> first | omega | exact True.intro | assumption | (simp; done) | rfl | (simp_all; done) | (simp_all; omega)))) ?_)))
                            (refine lwp_region hC ⟨[], [], [(4, LOwn_i t [(0, some 1), (1, some 2)]), (5, PVersines_i S S t [(0, some 24), (1, some 25)])]⟩ (told1 _ (by rw [hP]; exact (calls_cons (LOwn_s _ _ (by omega) (by omega)) (calls_cons (PVersines_s _ _ _ _) calls_nil)))) rfl ?_ ?_; rotate_left 1)
                            · generalize hL : LengthenedS b a S (VersinesS S S t).1 = L at *
                              generalize VersinesS S S t = Sh at *
                              (repeat (first | (refine lwp_seq fun K hK => ?_) | (refine thenS_normal ?_; apply_assumption -exfalso -symm) | (refine thenS_exit ?_) | (refine thenS_ret ?_) | (refine inBlockS_normal ?_) | (refine inBlockS_ret ?_) | (refine inBlockS_hit rfl ?_) | (refine inBlockS_miss rfl ?_) | (refine lwp_block ?_) | (refine lwp_skip ?_) | (refine lwp_exit ?_) | (refine lwp_ret ?_) | (refine lwp_label ?_) | (refine lwp_region hC ⟨[], [], []⟩ (told0 _ _) rfl True.intro ?_) | (refine lwp_region hC ⟨[], [], []⟩ (told0 _ _) rfl (by ((try simp only [AllL, All, cd_p, cp_p, cv_p, InK, and_true, true_and]); all_goals ((repeat' (first | refine And.intro ?_ ?_ | intro _)) <;> first | omega | exact True.intro | assumption | (simp; done) | rfl | (simp_all; done) | (simp_all; omega)))) ?_)))
                              (refine lwp_cond hC rfl (by first | exact True.intro | ((try simp only [AllL, All, cd_p, cp_p, cv_p, InK, and_true, true_and]); all_goals ((repeat' (first | refine And.intro ?_ ?_ | intro _)) <;> first | omega | exact True.intro | assumption | (simp; done) | rfl | (simp_all; done) | (simp_all; omega)))) (fun hb => ?_) (fun hb => ?_) <;> (try simp only [decide_eq_true_eq, decide_eq_false_iff_not, Bool.not_eq_true', Bool.not_eq_false', ne_eq, Decidable.not_not] at hb))
                              · exact absurd s2 hb
                              · clear hb
                                (repeat (first | (refine lwp_seq fun K hK => ?_) | (refine thenS_normal ?_; apply_assumption -exfalso -symm) | (refine thenS_exit ?_) | (refine thenS_ret ?_) | (refine inBlockS_normal ?_) | (refine inBlockS_ret ?_) | (refine inBlockS_hit rfl ?_) | (refine inBlockS_miss rfl ?_) | (refine lwp_block ?_) | (refine lwp_skip ?_) | (refine lwp_exit ?_) | (refine lwp_ret ?_) | (refine lwp_label ?_) | (refine lwp_region hC ⟨[], [], []⟩ (told0 _ _) rfl True.intro ?_) | (refine lwp_region hC ⟨[], [], []⟩ (told0 _ _) rfl (by ((try simp only [AllL, All, cd_p, cp_p, cv_p, InK, and_true, true_and]); all_goals ((repeat' (first | refine And.intro ?_ ?_ | intro _)) <;> first | omega | exact True.intro | assumption | (simp; done) | rfl | (simp_all; done) | (simp_all; omega)))) ?_)))
                                (refine lwp_drawn2 hC (by rw [hP]; exact mixed) ⟨[], [], [(3, Told_i Sh.1 [(0, some 26), (1, some 27)]), (4, LOwn_i Sh.1 [(0, some 26), (1, some 27)]), (5, PLengthened_i b a S Sh.1 [(0, some 30), (1, some 31)])]⟩ (told1 _ (by rw [hP]; exact (calls_cons (Told_s _ _) (calls_cons (LOwn_s _ _ (by omega) (by omega)) (calls_cons (PLengthened_s _ _ _ _ _) calls_nil))))) [0, 0, 0, 4, 12, 31, 63, 127, 127, 0, 767, 2047] 10 256 rfl ?_ ?_; rotate_left 1)
                                · rw [hL]
                                  clear hL
                                  (repeat (first | (refine lwp_seq fun K hK => ?_) | (refine thenS_normal ?_; apply_assumption -exfalso -symm) | (refine thenS_exit ?_) | (refine thenS_ret ?_) | (refine inBlockS_normal ?_) | (refine inBlockS_ret ?_) | (refine inBlockS_hit rfl ?_) | (refine inBlockS_miss rfl ?_) | (refine lwp_block ?_) | (refine lwp_skip ?_) | (refine lwp_exit ?_) | (refine lwp_ret ?_) | (refine lwp_label ?_) | (refine lwp_region hC ⟨[], [], []⟩ (told0 _ _) rfl True.intro ?_) | (refine lwp_region hC ⟨[], [], []⟩ (told0 _ _) rfl (by ((try simp only [AllL, All, cd_p, cp_p, cv_p, InK, and_true, true_and]); all_goals ((repeat' (first | refine And.intro ?_ ?_ | intro _)) <;> first | omega | exact True.intro | assumption | (simp; done) | rfl | (simp_all; done) | (simp_all; omega)))) ?_)))
                                  (refine lwp_drawn2 hC (by rw [hP]; exact mixed) ⟨[], [], [(10, LOwn_i t [(0, some 1), (1, some 2)]), (11, PVersines_i (S * b) (S * a) t [(0, some 36), (1, some 37)])]⟩ (told1 _ (by rw [hP]; exact (calls_cons (LOwn_s _ _ (by omega) (by omega)) (calls_cons (PVersines_s _ _ _ _) calls_nil)))) [0, 0, 2, 7, 0, 0, 32, 112, 255, 0, 512, 2047, 4095, 8191, 8191, 0, 49151, 131071] 16 16384 rfl ?_ ?_; rotate_left 1)
                                  · generalize VersinesS (S * b) (S * a) t = D at *
                                    (repeat (first | (refine lwp_seq fun K hK => ?_) | (refine thenS_normal ?_; apply_assumption -exfalso -symm) | (refine thenS_exit ?_) | (refine thenS_ret ?_) | (refine inBlockS_normal ?_) | (refine inBlockS_ret ?_) | (refine inBlockS_hit rfl ?_) | (refine inBlockS_miss rfl ?_) | (refine lwp_block ?_) | (refine lwp_skip ?_) | (refine lwp_exit ?_) | (refine lwp_ret ?_) | (refine lwp_label ?_) | (refine lwp_region hC ⟨[], [], []⟩ (told0 _ _) rfl True.intro ?_) | (refine lwp_region hC ⟨[], [], []⟩ (told0 _ _) rfl (by ((try simp only [AllL, All, cd_p, cp_p, cv_p, InK, and_true, true_and]); all_goals ((repeat' (first | refine And.intro ?_ ?_ | intro _)) <;> first | omega | exact True.intro | assumption | (simp; done) | rfl | (simp_all; done) | (simp_all; omega)))) ?_)))
                                    (refine lwp_drawn hC (by rw [hP]; exact mixed) ⟨[(4, { b := some true }), (11, { b := some true })], [], [(6, Told_i L.1 [(0, some 32), (1, some 33)]), (8, Told_i D.1 [(0, some 38), (1, some 39)]), (9, Agree_i L.1 D.1 [(0, some 32), (1, some 33), (2, some 38), (3, some 39)]), (12, Awake_i [(0, some 0)])]⟩ (told1 _ (by rw [hP]; exact (calls_cons (Told_s _ _) (calls_cons (Told_s _ _) (calls_cons (Agree_s _ _ _ (by omega) (by omega) (by omega) (by omega)) (calls_cons (Awake_s _) calls_nil)))))) [0, 0, 3, 7, 15, 31, 63, 31, 255, 511, 1023, 2047, 4095, 8191, 16383] 8 rfl ?_ ?_; rotate_left 1)
                                    · (repeat (first | (refine lwp_seq fun K hK => ?_) | (refine thenS_normal ?_; apply_assumption -exfalso -symm) | (refine thenS_exit ?_) | (refine thenS_ret ?_) | (refine inBlockS_normal ?_) | (refine inBlockS_ret ?_) | (refine inBlockS_hit rfl ?_) | (refine inBlockS_miss rfl ?_) | (refine lwp_block ?_) | (refine lwp_skip ?_) | (refine lwp_exit ?_) | (refine lwp_ret ?_) | (refine lwp_label ?_) | (refine lwp_region hC ⟨[], [], []⟩ (told0 _ _) rfl True.intro ?_) | (refine lwp_region hC ⟨[], [], []⟩ (told0 _ _) rfl (by ((try simp only [AllL, All, cd_p, cp_p, cv_p, InK, and_true, true_and]); all_goals ((repeat' (first | refine And.intro ?_ ?_ | intro _)) <;> first | omega | exact True.intro | assumption | (simp; done) | rfl | (simp_all; done) | (simp_all; omega)))) ?_)))
                                      (refine end_intro (by first | exact .inr rfl | exact .inl rfl) [] rfl ?_)
                                      exact ⟨rfl, trivial⟩
                                    · (simp only [AllL, All, cd_p, cp_p, cv_p, l2, d2, ag, InK, spC_nil, intsC_nil, List.length_nil, and_self, cond_true])
                                      (repeat' (first | refine And.intro ?_ ?_ | intro _)) <;> first | trivial | omega | (simp; done)
                                  · ((try simp only [AllL, All, cd_p, cp_p, cv_p, InK, and_true, true_and]); all_goals ((repeat' (first | refine And.intro ?_ ?_ | intro _)) <;> first | omega | exact True.intro | assumption | (simp; done) | rfl | (simp_all; done) | (simp_all; omega)))
                                · ((try simp only [AllL, All, cd_p, cp_p, cv_p, InK, and_true, true_and]); all_goals ((repeat' (first | refine And.intro ?_ ?_ | intro _)) <;> first | omega | exact True.intro | assumption | (simp; done) | rfl | (simp_all; done) | (simp_all; omega)))
                            · ((try simp only [AllL, All, cd_p, cp_p, cv_p, InK, and_true, true_and]); all_goals ((repeat' (first | refine And.intro ?_ ?_ | intro _)) <;> first | omega | exact True.intro | assumption | (simp; done) | rfl | (simp_all; done) | (simp_all; omega)))
                      · (simp only [AllL, All, cd_p, cp_p, cv_p, l2, InK, spC_nil, intsC_nil, List.length_nil, and_self, cond_true])
                        (repeat' (first | refine And.intro ?_ ?_ | intro _)) <;> first | trivial | omega | (simp; done) | (simp [hsm]; done)
                · ((try simp only [AllL, All, cd_p, cp_p, cv_p, InK, and_true, true_and]); all_goals ((repeat' (first | refine And.intro ?_ ?_ | intro _)) <;> first | omega | exact True.intro | assumption | (simp; done) | rfl | (simp_all; done) | (simp_all; omega)))
            · ((try simp only [AllL, All, cd_p, cp_p, cv_p, InK, and_true, true_and]); all_goals ((repeat' (first | refine And.intro ?_ ?_ | intro _)) <;> first | omega | exact True.intro | assumption | (simp; done) | rfl | (simp_all; done) | (simp_all; omega)))
          · ((try simp only [AllL, All, cd_p, cp_p, cv_p, InK, and_true, true_and]); all_goals ((repeat' (first | refine And.intro ?_ ?_ | intro _)) <;> first | omega | exact True.intro | assumption | (simp; done) | rfl | (simp_all; done) | (simp_all; omega)))
        · ((try simp only [AllL, All, cd_p, cp_p, cv_p, InK, and_true, true_and]); all_goals ((repeat' (first | refine And.intro ?_ ?_ | intro _)) <;> first | omega | exact True.intro | assumption | (simp; done) | rfl | (simp_all; done) | (simp_all; omega)))
    · (simp only [AllL, All, cd_p, cp_p, cv_p, hs, Bool.not_true, spC_nil, intsC_nil, List.length_nil, and_self, cond_true]) <;> simp

end Go.Proofs.YtbpffadffbgloaaDoor
