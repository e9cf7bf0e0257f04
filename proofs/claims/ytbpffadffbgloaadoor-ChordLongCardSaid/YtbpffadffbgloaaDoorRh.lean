/- Contracts of the reference: lengthened. -/
import Derived.Test.YtbpffadffbgloaaDoorRg
set_option linter.unusedVariables false
set_option linter.unusedSimpArgs false
namespace Go.Proofs.YtbpffadffbgloaaDoor
open Go.RowKit Go.Sym

def RLengthened_i (b a step : Int) (t : Tr) (σ : Ren) : Inst := { f := 29, hin := trIn t, args := [.agg [i64 b, i64 a], i64 step, trA 0 1 t], hout := trW 2 (RWeightedS b a step t), ret := trR 2 (RWeightedS b a step t), σ := σ }
set_option maxRecDepth 20000 in
set_option maxHeartbeats 8000000 in
theorem RLengthened_s (b a step : Int) (t : Tr) (σ : Ren) (h : ShortOk t) (hb : 1 ≤ b) (hb2 : b ≤ 32) (ha : 1 ≤ a) (ha2 : a ≤ 32) (hs0 : 1 ≤ step) (hs1 : step ≤ 32) : (RLengthened_i b a step t σ).ok Tryd.prog := by
  have hs := sumOk_weighted h b a step hb hb2 ha ha2 hs0 hs1
  have h1 := small_mul2 (x := b - 1) (y := step) (by omega) (by omega) (by omega) (by omega)
  have h2 := small_mul2 (x := a - 1) (y := step) (by omega) (by omega) (by omega) (by omega)
  unfold RLengthened_i RWeightedS
  unfold Inst.ok; dsimp only; refine spec_of_body (tys := tys) 2 Tryd.func29 (by kernel_rfl) rfl tys_ok rfl (Nat.le_of_ble_eq_true rfl) (fun _ _ h => (by cases h)) fun F hP hm hC => ?_; conv => whnf
  (repeat (first | (refine lwp_seq fun K hK => ?_) | (refine thenS_normal ?_; apply_assumption -exfalso -symm) | (refine thenS_exit ?_) | (refine thenS_ret ?_) | (refine inBlockS_normal ?_) | (refine inBlockS_ret ?_) | (refine inBlockS_hit rfl ?_) | (refine inBlockS_miss rfl ?_) | (refine lwp_block ?_) | (refine lwp_skip ?_) | (refine lwp_exit ?_) | (refine lwp_ret ?_) | (refine lwp_label ?_) | (refine lwp_region hC ⟨[], [], []⟩ (told0 _ _) rfl True.intro ?_) | (refine lwp_region hC ⟨[], [], []⟩ (told0 _ _) rfl (by ((try simp only [AllL, All, cd_p, cp_p, cv_p, InK, and_true, true_and]); all_goals ((repeat' (first | refine And.intro ?_ ?_ | intro _)) <;> first | omega | exact True.intro | assumption | (simp; done) | rfl | (simp_all; done) | (simp_all; omega)))) ?_)))
  (refine lwp_drawn2 hC (by rw [hP]; exact mixed) ⟨[], [], [(2, RWeights_i b a []), (14, Summed_i t (weightsS b a) ((b - 1) * step) ((a - 1) * step) step [(0, some 0), (1, some 1), (2, some 5)])]⟩ (told1 _ (by rw [hP]; exact (calls_cons (RWeights_s b a _ hb hb2 ha ha2) (calls_cons (Summed_s _ _ _ _ _ _ hs) calls_nil)))) [0, 0, 2, 0, 8, 24, 0, 120, 0, 256, 768, 0, 3840, 0, 16383, 32767, 32767, 131071, 262143] 17 0 rfl ?_ ?_; rotate_left 1)
  · (repeat (first | (refine lwp_seq fun K hK => ?_) | (refine thenS_normal ?_; apply_assumption -exfalso -symm) | (refine thenS_exit ?_) | (refine thenS_ret ?_) | (refine inBlockS_normal ?_) | (refine inBlockS_ret ?_) | (refine inBlockS_hit rfl ?_) | (refine inBlockS_miss rfl ?_) | (refine lwp_block ?_) | (refine lwp_skip ?_) | (refine lwp_exit ?_) | (refine lwp_ret ?_) | (refine lwp_label ?_) | (refine lwp_region hC ⟨[], [], []⟩ (told0 _ _) rfl True.intro ?_) | (refine lwp_region hC ⟨[], [], []⟩ (told0 _ _) rfl (by ((try simp only [AllL, All, cd_p, cp_p, cv_p, InK, and_true, true_and]); all_goals ((repeat' (first | refine And.intro ?_ ?_ | intro _)) <;> first | omega | exact True.intro | assumption | (simp; done) | rfl | (simp_all; done) | (simp_all; omega)))) ?_)))
    generalize summedS t.first (valuesS t.vals t.holes) (weightsS b a) ((b - 1) * step) ((a - 1) * step) step = T at *
    (refine end_intro (by first | exact .inr rfl | exact .inl rfl) [(2, some 6), (3, some 7)] rfl ?_)
    ((try simp only [AllL, All, cd_p, cp_p, cv_p, InK, and_true, true_and]); all_goals ((repeat' (first | refine And.intro ?_ ?_ | intro _)) <;> first | omega | exact True.intro | assumption | (simp; done) | rfl | (simp_all; done) | (simp_all; omega)))
  · ((try simp only [AllL, All, cd_p, cp_p, cv_p, InK, and_true, true_and]); all_goals ((repeat' (first | refine And.intro ?_ ?_ | intro _)) <;> first | omega | exact True.intro | assumption | (simp; done) | rfl | (simp_all; done) | (simp_all; omega)))

end Go.Proofs.YtbpffadffbgloaaDoor
