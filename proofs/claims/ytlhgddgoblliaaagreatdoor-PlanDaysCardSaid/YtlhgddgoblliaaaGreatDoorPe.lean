/- Chapter 9: rails: the program's checks, sums and quotients, and the reference's. -/
import Derived.Test.YtlhgddgoblliaaaGreatDoorPb
set_option linter.unusedVariables false
set_option linter.unusedSimpArgs false
namespace Go.Proofs.YtlhgddgoblliaaaGreatDoor
open Go.RowKit Go.Sym

def bandS (a b : Int) : Int := firstS [withinS a (-1000) 1000, withinS b (-1000) 1000, whenS (decide (a > b)) 11]
/-- What fits. -/
structure RailB (L H E g : Int) : Prop where
  b1 : 1 ≤ L ∧ L ≤ 1000000
  b2 : -1000 ≤ H ∧ H ≤ 1000
  b3 : 0 ≤ E ∧ E ≤ L
  b4 : 1 ≤ g ∧ g ≤ 1000000
  b5 : -1000000000 ≤ L * H ∧ L * H ≤ 1000000000
  b6 : 0 ≤ E * g ∧ E * g ≤ 1000000000000
def PHeat1_i (n : Int) : Inst := { f := 121, hin := [], args := [i64 n], hout := [], ret := i64 (withinS n (-1000) 1000), σ := [] }
theorem PHeat1_s (n : Int) : (PHeat1_i n).ok Tryz.prog := by
  unfold PHeat1_i Inst.ok; dsimp only; refine spec_of_body (tys := tys) 0 Tryz.func121 (by kernel_rfl) rfl tys_ok rfl (Nat.le_of_ble_eq_true rfl) (fun _ _ h => (by cases h)) fun F hP hm hC hrd => ?_; conv => whnf
  repeat first | refine lwp_seq fun K hK => ?_ | ((with_reducible refine gA ?_); apply_assumption -exfalso -symm) | refine gB ?_ | refine gC ?_ | refine gD ?_ | refine gE ?_ | refine gF rfl ?_ | refine gG rfl ?_ | refine gH ?_ | refine gI ?_ | refine gJ ?_ | refine gK ?_ | refine gL ?_ | refine gM hC rfl ⟨⟩ ?_ | refine gM hC rfl (by exact sd) ?_
  (refine lwp_region hC ⟨[], [], [(1, PWithin_i n (-1000) 1000)]⟩ (told1 _ (by rw [hP]; exact (calls_cons (PWithin_s _ _ _) calls_nil))) rfl ?_ ?_; rotate_left 1)
  · repeat first | refine lwp_seq fun K hK => ?_ | ((with_reducible refine gA ?_); apply_assumption -exfalso -symm) | refine gB ?_ | refine gC ?_ | refine gD ?_ | refine gE ?_ | refine gF rfl ?_ | refine gG rfl ?_ | refine gH ?_ | refine gI ?_ | refine gJ ?_ | refine gK ?_ | refine gL ?_ | refine gM hC rfl ⟨⟩ ?_ | refine gM hC rfl (by exact sd) ?_
    (refine end_intro (by first | exact .inr rfl | exact .inl rfl) [] rfl ?_)
    exact ⟨rfl, trivial⟩
  · exact sd
def PBand_i (a b : Int) : Inst := { f := 55, hin := [], args := [.agg [i64 a, i64 b]], hout := [], ret := i64 (bandS a b), σ := [] }
theorem PBand_s (a b : Int) : (PBand_i a b).ok Tryz.prog := by
  unfold PBand_i Inst.ok; dsimp only; refine spec_of_body (tys := tys) 0 Tryz.func55 (by kernel_rfl) rfl tys_ok rfl (Nat.le_of_ble_eq_true rfl) (fun _ _ h => (by cases h)) fun F hP hm hC hrd => ?_; conv => whnf
  repeat first | refine lwp_seq fun K hK => ?_ | ((with_reducible refine gA ?_); apply_assumption -exfalso -symm) | refine gB ?_ | refine gC ?_ | refine gD ?_ | refine gE ?_ | refine gF rfl ?_ | refine gG rfl ?_ | refine gH ?_ | refine gI ?_ | refine gJ ?_ | refine gK ?_ | refine gL ?_ | refine gM hC rfl ⟨⟩ ?_ | refine gM hC rfl (by exact sd) ?_
  (refine lwp_drawn hC (by rw [hP]; exact mixed) ⟨[], [], [(2, PHeat1_i a), (5, PHeat1_i b), (11, PWhen_i (decide (a > b)) 11), (13, PFirst_i [withinS a (-1000) 1000, withinS b (-1000) 1000, whenS (decide (a > b)) 11] [(0, some 1)])]⟩ (told1 _ (by rw [hP]; exact (calls_cons (PHeat1_s _) (calls_cons (PHeat1_s _) (calls_cons (PWhen_s _ _) (calls_cons (PFirst_s _ _ (by simp)) calls_nil)))))) [0, 1, 3, 0, 8, 31, 0, 64, 0, 256, 960, 2047, 4095, 8191, 16383] 11 rfl ?_ ?_; rotate_left 1)
  · repeat first | refine lwp_seq fun K hK => ?_ | ((with_reducible refine gA ?_); apply_assumption -exfalso -symm) | refine gB ?_ | refine gC ?_ | refine gD ?_ | refine gE ?_ | refine gF rfl ?_ | refine gG rfl ?_ | refine gH ?_ | refine gI ?_ | refine gJ ?_ | refine gK ?_ | refine gL ?_ | refine gM hC rfl ⟨⟩ ?_ | refine gM hC rfl (by exact sd) ?_
    (refine end_intro (by first | exact .inr rfl | exact .inl rfl) [] rfl ?_)
    exact ⟨rfl, trivial⟩
  · exact sd
def RBand_i (a b : Int) : Inst := { f := 16, hin := [], args := [.agg [i64 a, i64 b]], hout := [], ret := i64 (bandS a b), σ := [] }
theorem RBand_s (a b : Int) : (RBand_i a b).ok Tryz.prog := by
  unfold RBand_i Inst.ok; dsimp only; refine spec_of_body (tys := tys) 0 Tryz.func16 (by kernel_rfl) rfl tys_ok rfl (Nat.le_of_ble_eq_true rfl) (fun _ _ h => (by cases h)) fun F hP hm hC hrd => ?_; conv => whnf
  repeat first | refine lwp_seq fun K hK => ?_ | ((with_reducible refine gA ?_); apply_assumption -exfalso -symm) | refine gB ?_ | refine gC ?_ | refine gD ?_ | refine gE ?_ | refine gF rfl ?_ | refine gG rfl ?_ | refine gH ?_ | refine gI ?_ | refine gJ ?_ | refine gK ?_ | refine gL ?_ | refine gM hC rfl ⟨⟩ ?_ | refine gM hC rfl (by exact sd) ?_
  (refine lwp_drawn hC (by rw [hP]; exact mixed) ⟨[], [], [(2, CheckRange_i a (-1000) 1000), (5, CheckRange_i b (-1000) 1000), (11, When_i (decide (a > b)) 11), (13, First_i [withinS a (-1000) 1000, withinS b (-1000) 1000, whenS (decide (a > b)) 11] [(0, some 1)])]⟩ (told1 _ (by rw [hP]; exact (calls_cons (CheckRange_s _ _ _) (calls_cons (CheckRange_s _ _ _) (calls_cons (When_s _ _) (calls_cons (First_s _ _ (by simp)) calls_nil)))))) [0, 1, 3, 0, 8, 31, 0, 64, 0, 256, 960, 2047, 4095, 8191, 16383] 11 rfl ?_ ?_; rotate_left 1)
  · repeat first | refine lwp_seq fun K hK => ?_ | ((with_reducible refine gA ?_); apply_assumption -exfalso -symm) | refine gB ?_ | refine gC ?_ | refine gD ?_ | refine gE ?_ | refine gF rfl ?_ | refine gG rfl ?_ | refine gH ?_ | refine gI ?_ | refine gJ ?_ | refine gK ?_ | refine gL ?_ | refine gM hC rfl ⟨⟩ ?_ | refine gM hC rfl (by exact sd) ?_
    (refine end_intro (by first | exact .inr rfl | exact .inl rfl) [] rfl ?_)
    exact ⟨rfl, trivial⟩
  · exact sd
/-! Quotients in lowest terms. -/
end Go.Proofs.YtlhgddgoblliaaaGreatDoor
