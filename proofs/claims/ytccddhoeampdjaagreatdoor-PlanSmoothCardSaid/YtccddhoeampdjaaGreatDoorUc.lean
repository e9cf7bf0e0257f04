/- Chapter 9: levels, targets and rules: the checks, the program's and the reference's. -/
import Derived.Test.YtccddhoeampdjaaGreatDoorPb
import Derived.Test.YtccddhoeampdjaaGreatDoorPo
import Derived.Test.YtccddhoeampdjaaGreatDoorOe
set_option linter.unusedVariables false
set_option linter.unusedSimpArgs false
namespace Go.Proofs.YtccddhoeampdjaaGreatDoor
open Go.RowKit Go.Sym

def Lev1_i (x : Int) (σ : Ren) : Inst := { f := 167, hin := [], args := [i64 x], hout := [], ret := i64 (withinS x (-1000) 1000), σ := σ }
theorem Lev1_s (x : Int) (σ : Ren) : (Lev1_i x σ).ok Tryz.prog := by
  unfold Lev1_i Inst.ok; dsimp only; refine spec_of_body (tys := tys) 0 Tryz.func167 (by kernel_rfl) rfl tys_ok rfl (Nat.le_of_ble_eq_true rfl) (fun _ _ h => (by cases h)) fun F hP hm hC hrd => ?_; conv => whnf
  repeat first | refine lwp_seq fun K hK => ?_ | (with_reducible refine gA ?_; apply_assumption -exfalso -symm) | refine Stp.h ?_ | refine gF rfl ?_ | refine gG rfl ?_ | refine gM hC rfl sd ?_
  (refine lwp_region hC ⟨[], [], [(1, PWithin_i x (-1000) 1000)]⟩ (told1 _ (by rw [hP]; exact (calls_cons (PWithin_s _ _ _) calls_nil))) rfl ?_ ?_; rotate_left 1)
  · repeat first | refine lwp_seq fun K hK => ?_ | (with_reducible refine gA ?_; apply_assumption -exfalso -symm) | refine Stp.h ?_ | refine gF rfl ?_ | refine gG rfl ?_ | refine gM hC rfl sd ?_
    (refine end_intro (by first | exact .inr rfl | exact .inl rfl) [] rfl ?_)
    exact ⟨rfl, trivial⟩
  · exact sd
def VMap_i (l : List Int) (σ : Ren) : Inst := { f := 164, hin := [(0, .ro l.length 1 (.ints .i64 l))], args := [.sl 0 l.length, .fn 167 [] []], hout := [(1, .row 31 l.length 1 (.ints .i64 (rangeL (-1000) 1000 l)))], ret := .sl 1 l.length, σ := σ }
theorem VMap_s (l : List Int) (σ : Ren) (hl : l.length ≤ 1000000) : (VMap_i l σ).ok Tryz.prog := by
  unfold VMap_i Inst.ok; dsimp only; refine spec_of_body (tys := tys) 1 Tryz.func164 (by kernel_rfl) rfl tys_ok rfl (Nat.le_of_ble_eq_true rfl) (fun _ _ h => (by cases h)) fun F hP hm hC hrd => ?_; conv => whnf
  repeat first | refine lwp_seq fun K hK => ?_ | (with_reducible refine gA ?_; apply_assumption -exfalso -symm) | refine Stp.h ?_ | refine gF rfl ?_ | refine gG rfl ?_ | refine gM hC rfl sd ?_
  refine lwp_loop (fun k : Nat => ⟨[(10, i64 k), (9, i64 l.length), (8, .sl 0 l.length), (5, .sl 1 k), (1, .fn 167 [] [])], [(1, .row 31 k 1 (.ints .i64 (rangeL (-1000) 1000 (l.take k)))), (0, .ro l.length 1 (.ints .i64 l))], 2⟩) (fun k => k ≤ l.length) (fun k => l.length - k) 0 ⟨?_, sub_intro hm [(0, some 0), (1, none)] rfl ?_⟩ ?_
  · exact Nat.zero_le _
  · exact sd
  · rintro k hk
    repeat first | refine lwp_seq fun K hK => ?_ | (with_reducible refine gA ?_; apply_assumption -exfalso -symm) | refine Stp.h ?_ | refine gF rfl ?_ | refine gG rfl ?_ | refine gM hC rfl sd ?_
    refine lwp_condS hC rfl sd ?_ ?_ <;> intro hb
    · repeat first | refine lwp_seq fun K hK => ?_ | (with_reducible refine gA ?_; apply_assumption -exfalso -symm) | refine Stp.h ?_ | refine gF rfl ?_ | refine gG rfl ?_ | refine gM hC rfl sd ?_
      rw [Int.toNat_natCast]
      (refine lwp_region hC ⟨[], [], [(3, Lev1_i (l.getD k 0) [])]⟩ (told1 _ (by rw [hP]; exact (calls_cons (Lev1_s _ _) calls_nil))) rfl ?_ ?_; rotate_left 1)
      · repeat first | refine lwp_seq fun K hK => ?_ | (with_reducible refine gA ?_; apply_assumption -exfalso -symm) | refine Stp.h ?_ | refine gF rfl ?_ | refine gG rfl ?_ | refine gM hC rfl sd ?_
        refine gA ⟨k + 1, ?_, ?_, sub_intro hm [(0, some 0), (1, some 3)] rfl ?_⟩
        · omega
        · omega
        · rw [rangeL_take _ _ _ _ (by omega)]
          exact sd
      · exact sd
    · repeat first | refine lwp_seq fun K hK => ?_ | (with_reducible refine gA ?_; apply_assumption -exfalso -symm) | refine Stp.h ?_ | refine gF rfl ?_ | refine gG rfl ?_ | refine gM hC rfl sd ?_
      (refine end_intro (by first | exact .inr rfl | exact .inl rfl) [(1, some 1)] rfl ?_)
      obtain rfl : k = l.length := by omega
      rw [List.take_of_length_le (by omega)]
      exact sd
def levE (l : List Int) : Int := firstS [whenS (decide ((l.length : Int) = 0)) 12, whenS (decide ((l.length : Int) > 24)) 5, firstS (rangeL (-1000) 1000 l)]
theorem levE_ok {l : List Int} (h : levE l = 0) : 0 < l.length ∧ l.length ≤ 24 ∧ ∀ x ∈ l, -1000 ≤ x ∧ x ≤ 1000 := by
  have h1 := (firstS_cons _ _).1 h
  have h2 := (firstS_cons _ _).1 h1.2
  have h3 := ((firstS_cons _ _).1 h2.2).1
  have a := of_decide_eq_false ((whenS_zero (by decide)).1 h1.1)
  have b := of_decide_eq_false ((whenS_zero (by decide)).1 h2.1)
  exact ⟨by omega, by omega, rangeL_zero h3⟩
def Lev_i (l : List Int) (σ : Ren) : Inst := { f := 139, hin := [(0, .ro l.length 1 (.ints .i64 l))], args := [.sl 0 l.length], hout := [], ret := i64 (levE l), σ := σ }
set_option maxRecDepth 20000 in
theorem Lev_s (l : List Int) (σ : Ren) (hl : l.length ≤ 1000000) : (Lev_i l σ).ok Tryz.prog := by
  have hF := PFirst_s (rangeL (-1000) 1000 l) [(0, some 2)] (by rw [rangeL_len]; omega)
  unfold PFirst_i at hF
  rw [rangeL_len] at hF
  unfold Lev_i Inst.ok; dsimp only; refine spec_of_body (tys := tys) 1 Tryz.func139 (by kernel_rfl) rfl tys_ok rfl (Nat.le_of_ble_eq_true rfl) (fun _ _ h => (by cases h)) fun F hP hm hC hrd => ?_; conv => whnf
  repeat first | refine lwp_seq fun K hK => ?_ | (with_reducible refine gA ?_; apply_assumption -exfalso -symm) | refine Stp.h ?_ | refine gF rfl ?_ | refine gG rfl ?_ | refine gM hC rfl sd ?_
  (refine lwp_region hC ⟨[], [], [(3, PWhen_i (decide ((l.length : Int) = 0)) 12), (7, PWhen_i (decide ((l.length : Int) > 24)) 5), (9, PFirst_i [whenS (decide ((l.length : Int) = 0)) 12, whenS (decide ((l.length : Int) > 24)) 5] [(0, some 1)])]⟩ (told1 _ (by rw [hP]; exact (calls_cons (PWhen_s _ _) (calls_cons (PWhen_s _ _) (calls_cons (PFirst_s _ _ (by simp)) calls_nil))))) rfl ?_ ?_; rotate_left 1)
  · repeat first | refine lwp_seq fun K hK => ?_ | (with_reducible refine gA ?_; apply_assumption -exfalso -symm) | refine Stp.h ?_ | refine gF rfl ?_ | refine gG rfl ?_ | refine gM hC rfl sd ?_
    refine lwp_condS hC rfl sd ?_ ?_ <;> intro hb
    · have e : levE l = firstS [whenS (decide ((l.length : Int) = 0)) 12, whenS (decide ((l.length : Int) > 24)) 5] := by
        unfold levE
        simp only [firstS] at hb ⊢
        by_cases q1 : whenS (decide ((l.length : Int) = 0)) 12 = 0
        · by_cases q2 : whenS (decide ((l.length : Int) > 24)) 5 = 0
          · exact absurd (by rw [if_pos q1, if_pos q2]) hb
          · simp only [if_pos q1, if_neg q2]
        · simp only [if_neg q1]
      repeat first | refine lwp_seq fun K hK => ?_ | (with_reducible refine gA ?_; apply_assumption -exfalso -symm) | refine Stp.h ?_ | refine gF rfl ?_ | refine gG rfl ?_ | refine gM hC rfl sd ?_
      (refine end_intro (by first | exact .inr rfl | exact .inl rfl) [] rfl ?_)
      rw [e]
      exact ⟨rfl, trivial⟩
    · have e : levE l = firstS (rangeL (-1000) 1000 l) := by
        have h1 := (firstS_cons _ _).1 hb
        have h2 := (firstS_cons _ _).1 h1.2
        unfold levE
        simp only [firstS, if_pos h1.1, if_pos h2.1]
        by_cases q : firstS (rangeL (-1000) 1000 l) = 0
        · simp [q]
        · simp [q]
      clear hb
      repeat first | refine lwp_seq fun K hK => ?_ | (with_reducible refine gA ?_; apply_assumption -exfalso -symm) | refine Stp.h ?_ | refine gF rfl ?_ | refine gG rfl ?_ | refine gM hC rfl ⟨⟩ ?_
      (refine lwp_region hC ⟨[], [], [(1, VMap_i l [(0, some 0)]), (2, { f := 94, hin := [(0, .ro l.length 1 (.ints .i64 (rangeL (-1000) 1000 l)))], args := [.sl 0 l.length], hout := [], ret := i64 (firstS (rangeL (-1000) 1000 l)), σ := [(0, some 2)] })]⟩ (told1 _ (by rw [hP]; exact (calls_cons (VMap_s _ _ hl) (calls_cons (hF) calls_nil)))) rfl ?_ ?_; rotate_left 1)
      · repeat first | refine lwp_seq fun K hK => ?_ | (with_reducible refine gA ?_; apply_assumption -exfalso -symm) | refine Stp.h ?_ | refine gF rfl ?_ | refine gG rfl ?_ | refine gM hC rfl sd ?_
        (refine end_intro (by first | exact .inr rfl | exact .inl rfl) [] rfl ?_)
        rw [e]
        exact ⟨rfl, trivial⟩
      · exact sd
  · exact sd
def rulE (m r : Int) : Int := firstS [withinS m 0 12, withinS r 1 12]
def Rul_i (m r : Int) (σ : Ren) : Inst := { f := 163, hin := [], args := [.agg [i64 m, i64 r]], hout := [], ret := i64 (rulE m r), σ := σ }
theorem Rul_s (m r : Int) (σ : Ren) : (Rul_i m r σ).ok Tryz.prog := by
  unfold Rul_i Inst.ok; dsimp only; refine spec_of_body (tys := tys) 0 Tryz.func163 (by kernel_rfl) rfl tys_ok rfl (Nat.le_of_ble_eq_true rfl) (fun _ _ h => (by cases h)) fun F hP hm hC hrd => ?_; conv => whnf
  repeat first | refine lwp_seq fun K hK => ?_ | (with_reducible refine gA ?_; apply_assumption -exfalso -symm) | refine Stp.h ?_ | refine gF rfl ?_ | refine gG rfl ?_ | refine gM hC rfl sd ?_
  (refine lwp_drawn hC (by rw [hP]; exact mixed) ⟨[], [], [(2, PWithin_i m 0 12), (5, PWithin_i r 1 12), (7, PFirst_i [withinS m 0 12, withinS r 1 12] [(0, some 1)])]⟩ (told1 _ (by rw [hP]; exact (calls_cons (PWithin_s _ _ _) (calls_cons (PWithin_s _ _ _) (calls_cons (PFirst_s _ _ (by simp)) calls_nil))))) [0, 1, 3, 0, 8, 31, 63, 127, 255] 5 rfl ?_ ?_; rotate_left 1)
  · repeat first | refine lwp_seq fun K hK => ?_ | (with_reducible refine gA ?_; apply_assumption -exfalso -symm) | refine Stp.h ?_ | refine gF rfl ?_ | refine gG rfl ?_ | refine gM hC rfl sd ?_
    (refine end_intro (by first | exact .inr rfl | exact .inl rfl) [] rfl ?_)
    exact ⟨rfl, trivial⟩
  · exact sd
def desE (lv tg : List Int) (m r : Int) : Int := firstS [levE lv, levE tg, whenS (decide ((lv.length : Int) ≠ tg.length)) 2, rulE m r]
def twoIn (lv tg : List Int) : List (Nat × Chunk) := [(0, .ro lv.length 1 (.ints .i64 lv)), (1, .ro tg.length 1 (.ints .i64 tg))]
def Des_i (lv tg : List Int) (m r : Int) (σ : Ren) : Inst := { f := 109, hin := twoIn lv tg, args := [.sl 0 lv.length, .sl 1 tg.length, .agg [i64 m, i64 r]], hout := [], ret := i64 (desE lv tg m r), σ := σ }
set_option maxRecDepth 20000 in
theorem Des_s (lv tg : List Int) (m r : Int) (σ : Ren) (h1 : lv.length ≤ 1000000) (h2 : tg.length ≤ 1000000) : (Des_i lv tg m r σ).ok Tryz.prog := by
  unfold Des_i Inst.ok; dsimp only; refine spec_of_body (tys := tys) 2 Tryz.func109 (by kernel_rfl) rfl tys_ok rfl (Nat.le_of_ble_eq_true rfl) (fun _ _ h => (by cases h)) fun F hP hm hC hrd => ?_; conv => whnf
  repeat first | refine lwp_seq fun K hK => ?_ | (with_reducible refine gA ?_; apply_assumption -exfalso -symm) | refine Stp.h ?_ | refine gF rfl ?_ | refine gG rfl ?_ | refine gM hC rfl sd ?_
  (refine lwp_drawn hC (by rw [hP]; exact mixed) ⟨[], [], [(1, Lev_i lv [(0, some 0)]), (3, Lev_i tg [(0, some 1)]), (9, PWhen_i (decide ((lv.length : Int) ≠ tg.length)) 2), (11, Rul_i m r []), (13, PFirst_i [levE lv, levE tg, whenS (decide ((lv.length : Int) ≠ tg.length)) 2, rulE m r] [(0, some 3)])]⟩ (told1 _ (by rw [hP]; exact (calls_cons (Lev_s _ _ h1) (calls_cons (Lev_s _ _ h2) (calls_cons (PWhen_s _ _) (calls_cons (Rul_s _ _ _) (calls_cons (PFirst_s _ _ (by simp)) calls_nil))))))) [0, 1, 0, 7, 0, 16, 0, 64, 240, 511, 0, 2047, 4095, 8191, 16383] 11 rfl ?_ ?_; rotate_left 1)
  · repeat first | refine lwp_seq fun K hK => ?_ | (with_reducible refine gA ?_; apply_assumption -exfalso -symm) | refine Stp.h ?_ | refine gF rfl ?_ | refine gG rfl ?_ | refine gM hC rfl sd ?_
    (refine end_intro (by first | exact .inr rfl | exact .inl rfl) [] rfl ?_)
    exact ⟨rfl, trivial⟩
  · exact sd
def RLev_i (l : List Int) (σ : Ren) : Inst := { f := 112, hin := [(0, .ro l.length 1 (.ints .i64 l))], args := [.sl 0 l.length], hout := [], ret := i64 (levE l), σ := σ }
theorem RLev_s (l : List Int) (σ : Ren) (hl : l.length ≤ 1000000) : (RLev_i l σ).ok Tryz.prog := by
  unfold RLev_i Inst.ok; dsimp only; refine spec_of_body (tys := tys) 1 Tryz.func112 (by kernel_rfl) rfl tys_ok rfl (Nat.le_of_ble_eq_true rfl) (fun _ _ h => (by cases h)) fun F hP hm hC hrd => ?_; conv => whnf
  repeat first | refine lwp_seq fun K hK => ?_ | (with_reducible refine gA ?_; apply_assumption -exfalso -symm) | refine Stp.h ?_ | refine gF rfl ?_ | refine gG rfl ?_ | refine gM hC rfl sd ?_
  refine lwp_condS hC rfl sd ?_ ?_ <;> intro hb
  · have e : levE l = 12 := by unfold levE; rw [decide_eq_true hb]; rfl
    repeat first | refine lwp_seq fun K hK => ?_ | (with_reducible refine gA ?_; apply_assumption -exfalso -symm) | refine Stp.h ?_ | refine gF rfl ?_ | refine gG rfl ?_ | refine gM hC rfl sd ?_
    (refine end_intro (by first | exact .inr rfl | exact .inl rfl) [] rfl ?_)
    rw [e]
    exact ⟨rfl, trivial⟩
  · have e1 : whenS (decide ((l.length : Int) = 0)) 12 = 0 := by rw [decide_eq_false hb]; rfl
    clear hb
    repeat first | refine lwp_seq fun K hK => ?_ | (with_reducible refine gA ?_; apply_assumption -exfalso -symm) | refine Stp.h ?_ | refine gF rfl ?_ | refine gG rfl ?_ | refine gM hC rfl sd ?_
    refine lwp_condS hC rfl sd ?_ ?_ <;> intro hb
    · have e : levE l = 5 := by unfold levE; rw [decide_eq_true hb]; simp only [firstS, if_pos e1]; rfl
      repeat first | refine lwp_seq fun K hK => ?_ | (with_reducible refine gA ?_; apply_assumption -exfalso -symm) | refine Stp.h ?_ | refine gF rfl ?_ | refine gG rfl ?_ | refine gM hC rfl sd ?_
      (refine end_intro (by first | exact .inr rfl | exact .inl rfl) [] rfl ?_)
      rw [e]
      exact ⟨rfl, trivial⟩
    · have e : levE l = firstS (rangeL (-1000) 1000 l) := by
        unfold levE
        rw [decide_eq_false hb]
        simp only [firstS, if_pos e1]
        by_cases q : firstS (rangeL (-1000) 1000 l) = 0
        · simp [q, whenS]
        · simp [q, whenS]
      clear hb
      repeat first | refine lwp_seq fun K hK => ?_ | (with_reducible refine gA ?_; apply_assumption -exfalso -symm) | refine Stp.h ?_ | refine gF rfl ?_ | refine gG rfl ?_ | refine gM hC rfl sd ?_
      (refine lwp_region hC ⟨[], [], [(1, RRanges_i (-1000) 1000 l [(0, some 0)])]⟩ (told1 _ (by rw [hP]; exact (calls_cons (RRanges_s _ _ _ _ hl) calls_nil))) rfl ?_ ?_; rotate_left 1)
      · repeat first | refine lwp_seq fun K hK => ?_ | (with_reducible refine gA ?_; apply_assumption -exfalso -symm) | refine Stp.h ?_ | refine gF rfl ?_ | refine gG rfl ?_ | refine gM hC rfl sd ?_
        (refine end_intro (by first | exact .inr rfl | exact .inl rfl) [] rfl ?_)
        rw [e]
        exact ⟨rfl, trivial⟩
      · exact sd
def RDes_i (lv tg : List Int) (m r : Int) (σ : Ren) : Inst := { f := 41, hin := twoIn lv tg, args := [.sl 0 lv.length, .sl 1 tg.length, .agg [i64 m, i64 r]], hout := [], ret := i64 (desE lv tg m r), σ := σ }
set_option maxRecDepth 20000 in
theorem RDes_s (lv tg : List Int) (m r : Int) (σ : Ren) (h1 : lv.length ≤ 1000000) (h2 : tg.length ≤ 1000000) : (RDes_i lv tg m r σ).ok Tryz.prog := by
  have e : desE lv tg m r = firstS [levE lv, levE tg, whenS (decide ((lv.length : Int) ≠ tg.length)) 2, withinS m 0 12, withinS r 1 12] := by
    unfold desE rulE
    simp only [firstS]
    by_cases q1 : levE lv = 0 <;> by_cases q2 : levE tg = 0 <;> by_cases q3 : whenS (decide ((lv.length : Int) ≠ tg.length)) 2 = 0 <;> by_cases q4 : withinS m 0 12 = 0 <;> by_cases q5 : withinS r 1 12 = 0 <;> simp [q1, q2, q3, q4, q5]
  unfold RDes_i Inst.ok; dsimp only; refine spec_of_body (tys := tys) 2 Tryz.func41 (by kernel_rfl) rfl tys_ok rfl (Nat.le_of_ble_eq_true rfl) (fun _ _ h => (by cases h)) fun F hP hm hC hrd => ?_; conv => whnf
  rw [e]
  repeat first | refine lwp_seq fun K hK => ?_ | (with_reducible refine gA ?_; apply_assumption -exfalso -symm) | refine Stp.h ?_ | refine gF rfl ?_ | refine gG rfl ?_ | refine gM hC rfl sd ?_
  (refine lwp_drawn2 hC (by rw [hP]; exact mixed) ⟨[], [], [(1, RLev_i lv [(0, some 0)]), (3, RLev_i tg [(0, some 1)]), (9, When_i (decide ((lv.length : Int) ≠ tg.length)) 2), (12, CheckRange_i m 0 12), (15, CheckRange_i r 1 12), (17, First_i [levE lv, levE tg, whenS (decide ((lv.length : Int) ≠ tg.length)) 2, withinS m 0 12, withinS r 1 12] [(0, some 3)])]⟩ (told1 _ (by rw [hP]; exact (calls_cons (RLev_s _ _ h1) (calls_cons (RLev_s _ _ h2) (calls_cons (When_s _ _) (calls_cons (CheckRange_s _ _ _) (calls_cons (CheckRange_s _ _ _) (calls_cons (First_s _ _ (by simp)) calls_nil)))))))) [0, 1, 0, 7, 0, 16, 0, 64, 240, 511, 0, 1024, 4095, 0, 8192, 32767, 65535, 131071, 262143] 19 0 rfl ?_ ?_; rotate_left 1)
  · repeat first | refine lwp_seq fun K hK => ?_ | (with_reducible refine gA ?_; apply_assumption -exfalso -symm) | refine Stp.h ?_ | refine gF rfl ?_ | refine gG rfl ?_ | refine gM hC rfl sd ?_
    (refine end_intro (by first | exact .inr rfl | exact .inl rfl) [] rfl ?_)
    exact ⟨rfl, trivial⟩
  · exact sd

end Go.Proofs.YtccddhoeampdjaaGreatDoor
