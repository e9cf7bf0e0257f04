/- Chapter 5: slips, intervals: the program's functions and the reference's. -/
import Derived.Test.YtoopgdchiljmiaaGreatDoorEh
set_option linter.unusedVariables false
set_option linter.unusedSimpArgs false
namespace Go.Proofs.YtoopgdchiljmiaaGreatDoor
open Go.RowKit Go.Sym

def slA (r b : Int) : AV := .agg [i64 r, i64 b]
def Slip_i (r b : Int) : Inst := { f := 149, hin := [], args := [slA r b], hout := [], ret := i64 (slipS r b), σ := [] }
theorem Slip_s (r b : Int) : (Slip_i r b).ok Tryz.prog := by
  unfold Slip_i Inst.ok; dsimp only; refine spec_of_body (tys := tys) 0 Tryz.func149 (by kernel_rfl) rfl tys_ok rfl (Nat.le_of_ble_eq_true rfl) (fun _ _ h => (by cases h)) fun F hP hm hC hrd => ?_; conv => whnf
  repeat first | refine lwp_seq fun K hK => ?_ | ((with_reducible refine gA ?_); apply_assumption -exfalso -symm) | refine gB ?_ | refine gC ?_ | refine gD ?_ | refine gE ?_ | refine gF rfl ?_ | refine gG rfl ?_ | refine gH ?_ | refine gI ?_ | refine gJ ?_ | refine gK ?_ | refine gL ?_ | refine lwp_region hC ⟨[], [], []⟩ (told0 _ _) rfl ⟨⟩ ?_ | refine lwp_region hC ⟨[], [], []⟩ (told0 _ _) rfl (by exact sd) ?_
  (refine lwp_drawn hC (by rw [hP]; exact mixed) ⟨[], [], [(2, AWithin_i r 0 500), (5, AWithin_i b 0 10000), (7, AFirst_i [withinS r 0 500, withinS b 0 10000] [(0, some 1)])]⟩ (told1 _ (by rw [hP]; exact (calls_cons (AWithin_s _ _ _) (calls_cons (AWithin_s _ _ _) (calls_cons (AFirst_s _ _ (by simp)) calls_nil))))) [0, 1, 3, 0, 8, 31, 63, 127, 255] 5 rfl ?_ ?_; rotate_left 1)
  · repeat first | refine lwp_seq fun K hK => ?_ | ((with_reducible refine gA ?_); apply_assumption -exfalso -symm) | refine gB ?_ | refine gC ?_ | refine gD ?_ | refine gE ?_ | refine gF rfl ?_ | refine gG rfl ?_ | refine gH ?_ | refine gI ?_ | refine gJ ?_ | refine gK ?_ | refine gL ?_ | refine lwp_region hC ⟨[], [], []⟩ (told0 _ _) rfl ⟨⟩ ?_ | refine lwp_region hC ⟨[], [], []⟩ (told0 _ _) rfl (by exact sd) ?_
    (refine end_intro (by first | exact .inr rfl | exact .inl rfl) [] rfl ?_)
    exact ⟨rfl, trivial⟩
  · exact sd
def RSlip_i (r b : Int) : Inst := { f := 57, hin := [], args := [slA r b], hout := [], ret := i64 (slipS r b), σ := [] }
theorem RSlip_s (r b : Int) : (RSlip_i r b).ok Tryz.prog := by
  unfold RSlip_i Inst.ok; dsimp only; refine spec_of_body (tys := tys) 0 Tryz.func57 (by kernel_rfl) rfl tys_ok rfl (Nat.le_of_ble_eq_true rfl) (fun _ _ h => (by cases h)) fun F hP hm hC hrd => ?_; conv => whnf
  repeat first | refine lwp_seq fun K hK => ?_ | ((with_reducible refine gA ?_); apply_assumption -exfalso -symm) | refine gB ?_ | refine gC ?_ | refine gD ?_ | refine gE ?_ | refine gF rfl ?_ | refine gG rfl ?_ | refine gH ?_ | refine gI ?_ | refine gJ ?_ | refine gK ?_ | refine gL ?_ | refine lwp_region hC ⟨[], [], []⟩ (told0 _ _) rfl ⟨⟩ ?_ | refine lwp_region hC ⟨[], [], []⟩ (told0 _ _) rfl (by exact sd) ?_
  (refine lwp_drawn hC (by rw [hP]; exact mixed) ⟨[], [], [(2, CheckRange_i r 0 500), (5, CheckRange_i b 0 10000), (7, First_i [withinS r 0 500, withinS b 0 10000] [(0, some 1)])]⟩ (told1 _ (by rw [hP]; exact (calls_cons (CheckRange_s _ _ _) (calls_cons (CheckRange_s _ _ _) (calls_cons (First_s _ _ (by simp)) calls_nil))))) [0, 1, 3, 0, 8, 31, 63, 127, 255] 5 rfl ?_ ?_; rotate_left 1)
  · repeat first | refine lwp_seq fun K hK => ?_ | ((with_reducible refine gA ?_); apply_assumption -exfalso -symm) | refine gB ?_ | refine gC ?_ | refine gD ?_ | refine gE ?_ | refine gF rfl ?_ | refine gG rfl ?_ | refine gH ?_ | refine gI ?_ | refine gJ ?_ | refine gK ?_ | refine gL ?_ | refine lwp_region hC ⟨[], [], []⟩ (told0 _ _) rfl ⟨⟩ ?_ | refine lwp_region hC ⟨[], [], []⟩ (told0 _ _) rfl (by exact sd) ?_
    (refine end_intro (by first | exact .inr rfl | exact .inl rfl) [] rfl ?_)
    exact ⟨rfl, trivial⟩
  · exact sd
def Count_i (n : Int) : Inst := { f := 133, hin := [], args := [i64 n], hout := [], ret := i64 (withinS n 0 100000000), σ := [] }
theorem Count_s (n : Int) : (Count_i n).ok Tryz.prog := by
  unfold Count_i Inst.ok; dsimp only; refine spec_of_body (tys := tys) 0 Tryz.func133 (by kernel_rfl) rfl tys_ok rfl (Nat.le_of_ble_eq_true rfl) (fun _ _ h => (by cases h)) fun F hP hm hC hrd => ?_; conv => whnf
  repeat first | refine lwp_seq fun K hK => ?_ | ((with_reducible refine gA ?_); apply_assumption -exfalso -symm) | refine gB ?_ | refine gC ?_ | refine gD ?_ | refine gE ?_ | refine gF rfl ?_ | refine gG rfl ?_ | refine gH ?_ | refine gI ?_ | refine gJ ?_ | refine gK ?_ | refine gL ?_ | refine lwp_region hC ⟨[], [], []⟩ (told0 _ _) rfl ⟨⟩ ?_ | refine lwp_region hC ⟨[], [], []⟩ (told0 _ _) rfl (by exact sd) ?_
  (refine lwp_region hC ⟨[], [], [(1, AWithin_i n 0 100000000)]⟩ (told1 _ (by rw [hP]; exact (calls_cons (AWithin_s _ _ _) calls_nil))) rfl ?_ ?_; rotate_left 1)
  · repeat first | refine lwp_seq fun K hK => ?_ | ((with_reducible refine gA ?_); apply_assumption -exfalso -symm) | refine gB ?_ | refine gC ?_ | refine gD ?_ | refine gE ?_ | refine gF rfl ?_ | refine gG rfl ?_ | refine gH ?_ | refine gI ?_ | refine gJ ?_ | refine gK ?_ | refine gL ?_ | refine lwp_region hC ⟨[], [], []⟩ (told0 _ _) rfl ⟨⟩ ?_ | refine lwp_region hC ⟨[], [], []⟩ (told0 _ _) rfl (by exact sd) ?_
    (refine end_intro (by first | exact .inr rfl | exact .inl rfl) [] rfl ?_)
    exact ⟨rfl, trivial⟩
  · exact sd
def Slipped_i (r b d : Int) : Inst := { f := 151, hin := [], args := [slA r b, i64 d], hout := [], ret := i64 (shareS d r), σ := [] }
theorem Slipped_s (r b d : Int) (hd : 0 ≤ d ∧ d ≤ 200000000) (hr : 0 ≤ r ∧ r ≤ 500) : (Slipped_i r b d).ok Tryz.prog := by
  have hB := shareS_bound hd hr
  have hB2 := hB.2.2
  unfold shareS at hB2
  unfold Slipped_i Inst.ok; dsimp only; refine spec_of_body (tys := tys) 0 Tryz.func151 (by kernel_rfl) rfl tys_ok rfl (Nat.le_of_ble_eq_true rfl) (fun _ _ h => (by cases h)) fun F hP hm hC hrd => ?_; conv => whnf
  repeat first | refine lwp_seq fun K hK => ?_ | ((with_reducible refine gA ?_); apply_assumption -exfalso -symm) | refine gB ?_ | refine gC ?_ | refine gD ?_ | refine gE ?_ | refine gF rfl ?_ | refine gG rfl ?_ | refine gH ?_ | refine gI ?_ | refine gJ ?_ | refine gK ?_ | refine gL ?_ | refine lwp_region hC ⟨[], [], []⟩ (told0 _ _) rfl ⟨⟩ ?_ | refine lwp_region hC ⟨[], [], []⟩ (told0 _ _) rfl (by exact sd) ?_
  all_goals first | exact sd | skip
  (refine end_intro (by first | exact .inr rfl | exact .inl rfl) [] rfl ?_)
  exact ⟨rfl, trivial⟩
/-- The interval of a count by a pair, the reference's. -/
def ivA (p : Int × Int) : AV := .agg [i64 p.1, i64 p.2]
end Go.Proofs.YtoopgdchiljmiaaGreatDoor
