/- Contracts of the reference: versines, weights, weighted, lengthened, smoothed. -/
import Derived.Test.YtbpffadffbgloaaGreatDoorRe
set_option linter.unusedVariables false
set_option linter.unusedSimpArgs false
namespace Go.Proofs.YtbpffadffbgloaaGreatDoor
open Go.RowKit Go.Sym

/-- A valid trace that the laws may speak of. -/
structure ShortOk (t : Tr) : Prop where
  ok : TrOk t
  hol : t.holes.length ≤ 1000000
theorem versW_small (b a : Int) (hb : 1 ≤ b) (hb2 : b ≤ 32) (ha : 1 ≤ a) (ha2 : a ≤ 32) (k : Nat) : -4096 ≤ (versW b a).getD k 0 ∧ (versW b a).getD k 0 ≤ 4096 := by
  by_cases h : k < (b + a + 1).toNat
  · rw [versW_get b a k h]
    split
    · omega
    · split
      · omega
      · split <;> omega
  · rw [List.getD_eq_getElem?_getD, List.getElem?_eq_none (by rw [versW_len]; omega)]
    exact ⟨by decide, by decide⟩
theorem sumOk_vers {t : Tr} (h : ShortOk t) (b a : Int) (hb : 1 ≤ b) (hb2 : b ≤ 32) (ha : 1 ≤ a) (ha2 : a ≤ 32) : SumOk t (versW b a) b a 1 :=
  ⟨h.ok.f0, h.ok.f1, h.ok.len, h.hol, h.ok.val, by rw [versW_len]; omega, versW_small b a hb hb2 ha ha2, by omega, by omega, by omega, by omega, by omega, by omega, fun k hk => by rw [versW_len] at hk; omega⟩
theorem versW_sets (b a : Int) (hb : 1 ≤ b) (ha : 1 ≤ a) : versW b a = (((List.replicate (b + a + 1).toNat (0 : Int)).set (Int.toNat 0) (0 - a)).set b.toNat (b + a)).set (b + a).toNat (0 - b) := by
  refine List.ext_getElem (by simp [versW_len]) fun k h1 h2 => ?_
  have h3 : (versW b a)[k] = (versW b a).getD k 0 := by rw [List.getD_eq_getElem?_getD, List.getElem?_eq_getElem h1]; rfl
  rw [h3, versW_get b a k (by rw [versW_len] at h1; exact h1)]
  simp only [List.getElem_set, List.getElem_replicate]
  have e0 : Int.toNat 0 = 0 := rfl
  rw [e0]
  by_cases h4 : k = 0
  · subst h4
    rw [if_pos rfl, if_neg (by omega), if_neg (by omega), if_pos rfl]; omega
  · by_cases h5 : (k : Int) = b
    · rw [if_neg h4, if_pos h5, if_neg (by omega), if_pos (by omega)]
    · by_cases h6 : (k : Int) = b + a
      · rw [if_neg h4, if_neg h5, if_pos h6, if_pos (by omega)]; omega
      · rw [if_neg h4, if_neg h5, if_neg h6, if_neg (by omega), if_neg (by omega), if_neg (by omega)]
def RVersines_i (b a : Int) (t : Tr) (σ : Ren) : Inst := { f := 84, hin := trIn t, args := [.agg [i64 b, i64 a], trA 0 1 t], hout := trW 2 (RVersinesS b a t), ret := trR 2 (RVersinesS b a t), σ := σ }
set_option maxRecDepth 20000 in
set_option maxHeartbeats 1000000 in
theorem RVersines_s (b a : Int) (t : Tr) (σ : Ren) (h : ShortOk t) (hb : 1 ≤ b) (hb2 : b ≤ 32) (ha : 1 ≤ a) (ha2 : a ≤ 32) : (RVersines_i b a t σ).ok Tryz.prog := by
  have hl := versW_len b a
  unfold RVersines_i Inst.ok; dsimp only; refine spec_of_body (tys := tys) 2 Tryz.func84 (by kernel_rfl) rfl tys_ok rfl (Nat.le_of_ble_eq_true rfl) (fun _ _ h => (by cases h)) fun F hP hm hC => ?_; conv => whnf
  (repeat (first | (refine lwp_seq fun K hK => ?_) | (refine thenS_normal ?_; apply_assumption -exfalso -symm) | (refine thenS_exit ?_) | (refine thenS_ret ?_) | (refine inBlockS_normal ?_) | (refine inBlockS_ret ?_) | (refine inBlockS_hit rfl ?_) | (refine inBlockS_miss rfl ?_) | (refine lwp_block ?_) | (refine lwp_skip ?_) | (refine lwp_exit ?_) | (refine lwp_ret ?_) | (refine lwp_label ?_) | (refine lwp_region hC ⟨[], [], []⟩ (told0 _ _) rfl True.intro ?_) | (refine lwp_region hC ⟨[], [], []⟩ (told0 _ _) rfl (by ((try simp only [AllL, All, cd_p, cp_p, cv_p, InK, and_true, true_and]); all_goals ((repeat' (first | refine And.intro ?_ ?_ | intro _)) <;> first | omega | exact True.intro | assumption | (simp; done) | rfl | (simp_all; done) | (simp_all; omega)))) ?_)))
  (refine lwp_region hC ⟨[], [], [(6, Summed_i t (versW b a) b a 1 [(0, some 0), (1, some 1), (2, some 5)])]⟩ (told1 _ (by rw [hP]; exact (calls_cons (Summed_s _ _ _ _ _ _ (sumOk_vers h b a hb hb2 ha ha2)) calls_nil))) rfl ?_ ?_; rotate_left 1)
  · (repeat (first | (refine lwp_seq fun K hK => ?_) | (refine thenS_normal ?_; apply_assumption -exfalso -symm) | (refine thenS_exit ?_) | (refine thenS_ret ?_) | (refine inBlockS_normal ?_) | (refine inBlockS_ret ?_) | (refine inBlockS_hit rfl ?_) | (refine inBlockS_miss rfl ?_) | (refine lwp_block ?_) | (refine lwp_skip ?_) | (refine lwp_exit ?_) | (refine lwp_ret ?_) | (refine lwp_label ?_) | (refine lwp_region hC ⟨[], [], []⟩ (told0 _ _) rfl True.intro ?_) | (refine lwp_region hC ⟨[], [], []⟩ (told0 _ _) rfl (by ((try simp only [AllL, All, cd_p, cp_p, cv_p, InK, and_true, true_and]); all_goals ((repeat' (first | refine And.intro ?_ ?_ | intro _)) <;> first | omega | exact True.intro | assumption | (simp; done) | rfl | (simp_all; done) | (simp_all; omega)))) ?_)))
    show EndPost _ _ _ (trW 2 (RVersinesS b a t)) (trR 2 (RVersinesS b a t)) _ _
    unfold RVersinesS
    generalize summedS t.first (valuesS t.vals t.holes) (versW b a) b a 1 = T at *
    (refine end_intro (by first | exact .inr rfl | exact .inl rfl) [(2, some 9), (3, some 10)] rfl ?_)
    ((try simp only [AllL, All, cd_p, cp_p, cv_p, InK, and_true, true_and]); all_goals ((repeat' (first | refine And.intro ?_ ?_ | intro _)) <;> first | omega | exact True.intro | assumption | (simp; done) | rfl | (simp_all; done) | (simp_all; omega)))
  · have e := versW_sets b a hb ha
    simp only [AllL, All, cd_p, cp_p, cv_p]
    (repeat' refine And.intro ?_ ?_) <;> first | exact e | omega | trivial | rfl

theorem weightsS_small (b a : Int) (hb : 1 ≤ b) (hb2 : b ≤ 32) (ha : 1 ≤ a) (ha2 : a ≤ 32) (k : Nat) : -4096 ≤ (weightsS b a).getD k 0 ∧ (weightsS b a).getD k 0 ≤ 4096 := by
  by_cases h : k < (b + a - 1).toNat
  · rw [weightsS_get b a k h]
    unfold weightS
    split
    · have := small_mul (x := a) (y := b + (1 - b + (k : Int))) (by omega) (by omega) (by omega) (by omega)
      omega
    · have := small_mul (x := b) (y := a - (1 - b + (k : Int))) (by omega) (by omega) (by omega) (by omega)
      omega
  · rw [List.getD_eq_getElem?_getD, List.getElem?_eq_none (by rw [weightsS_len]; omega)]
    exact ⟨by decide, by decide⟩
theorem small_mul2 {x y : Int} (h1 : 0 ≤ x) (h2 : x ≤ 64) (h3 : 0 ≤ y) (h4 : y ≤ 64) : 0 ≤ x * y ∧ x * y ≤ 4096 := by
  refine ⟨Int.mul_nonneg h1 h3, ?_⟩
  have := Int.mul_le_mul h2 h4 h3 (by omega)
  omega
theorem sumOk_weighted {t : Tr} (h : ShortOk t) (b a step : Int) (hb : 1 ≤ b) (hb2 : b ≤ 32) (ha : 1 ≤ a) (ha2 : a ≤ 32) (hs : 1 ≤ step) (hs2 : step ≤ 32) : SumOk t (weightsS b a) ((b - 1) * step) ((a - 1) * step) step := by
  have h1 := small_mul2 (x := b - 1) (y := step) (by omega) (by omega) (by omega) (by omega)
  have h2 := small_mul2 (x := a - 1) (y := step) (by omega) (by omega) (by omega) (by omega)
  refine ⟨h.ok.f0, h.ok.f1, h.ok.len, h.hol, h.ok.val, by rw [weightsS_len]; omega, weightsS_small b a hb hb2 ha ha2, by omega, by omega, by omega, by omega, by omega, by omega, fun k hk => ?_⟩
  rw [weightsS_len] at hk
  have h3 : (k : Int) ≤ b + a - 2 := by omega
  have h4 : (k : Int) * step ≤ (b + a - 2) * step := Int.mul_le_mul_of_nonneg_right h3 (by omega)
  have h5 : (b + a - 2) * step = (b - 1) * step + (a - 1) * step := by rw [← Int.add_mul]; congr 1; omega
  have h6 : 0 ≤ (k : Int) * step := Int.mul_nonneg (by omega) (by omega)
  omega
end Go.Proofs.YtbpffadffbgloaaGreatDoor
