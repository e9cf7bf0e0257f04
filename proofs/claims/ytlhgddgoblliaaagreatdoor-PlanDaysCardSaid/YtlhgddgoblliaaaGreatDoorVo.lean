/- Chapter 9: sequences: the temperatures, the greatest number, the days that are none. -/
import Derived.Test.YtlhgddgoblliaaaGreatDoorPe
import Derived.Test.YtlhgddgoblliaaaGreatDoorVi
set_option linter.unusedVariables false
set_option linter.unusedSimpArgs false
namespace Go.Proofs.YtlhgddgoblliaaaGreatDoor
open Go.RowKit Go.Sym

def HMap1_i (l : List Int) (σ : Ren) : Inst := { f := 120, hin := [(0, .ro l.length 1 (.ints .i64 l))], args := [.sl 0 l.length, .fn 121 [] []], hout := [(1, .row 30 l.length 1 (.ints .i64 (rangeL (-1000) 1000 l)))], ret := .sl 1 l.length, σ := σ }
theorem HMap1_s (l : List Int) (σ : Ren) (hl : l.length ≤ 1000000) : (HMap1_i l σ).ok Tryz.prog := by
  unfold HMap1_i Inst.ok; dsimp only; refine spec_of_body (tys := tys) 1 Tryz.func120 (by kernel_rfl) rfl tys_ok rfl (Nat.le_of_ble_eq_true rfl) (fun _ _ h => (by cases h)) fun F hP hm hC hrd => ?_; conv => whnf
  repeat first | refine lwp_seq fun K hK => ?_ | (with_reducible refine gA ?_; apply_assumption -exfalso -symm) | refine Stp.h ?_ | refine gF rfl ?_ | refine gG rfl ?_ | refine gM hC rfl sd ?_
  refine lwp_loop (fun k : Nat => ⟨[(10, i64 k), (9, i64 l.length), (8, .sl 0 l.length), (5, .sl 1 k), (1, .fn 121 [] [])], [(1, .row 30 k 1 (.ints .i64 (rangeL (-1000) 1000 (l.take k)))), (0, .ro l.length 1 (.ints .i64 l))], 2⟩) (fun k => k ≤ l.length) (fun k => l.length - k) 0 ⟨?_, sub_intro hm [(0, some 0), (1, none)] rfl ?_⟩ ?_
  · exact Nat.zero_le _
  · exact sd
  · rintro k hk
    repeat first | refine lwp_seq fun K hK => ?_ | (with_reducible refine gA ?_; apply_assumption -exfalso -symm) | refine Stp.h ?_ | refine gF rfl ?_ | refine gG rfl ?_ | refine gM hC rfl sd ?_
    refine lwp_condS hC rfl sd ?_ ?_ <;> intro hb
    · repeat first | refine lwp_seq fun K hK => ?_ | (with_reducible refine gA ?_; apply_assumption -exfalso -symm) | refine Stp.h ?_ | refine gF rfl ?_ | refine gG rfl ?_ | refine gM hC rfl sd ?_
      rw [Int.toNat_natCast]
      (refine lwp_region hC ⟨[], [], [(3, PHeat1_i (l.getD k 0))]⟩ (told1 _ (by rw [hP]; exact (calls_cons (PHeat1_s _) calls_nil))) rfl ?_ ?_; rotate_left 1)
      · repeat first | refine lwp_seq fun K hK => ?_ | (with_reducible refine gA ?_; apply_assumption -exfalso -symm) | refine Stp.h ?_ | refine gF rfl ?_ | refine gG rfl ?_ | refine gM hC rfl sd ?_
        refine gA ⟨k + 1, ?_, ?_, sub_intro hm [(0, some 0), (1, some 3)] rfl ?_⟩
        · omega
        · omega
        · rw [rangeL_take _ _ _ _ (by omega)]
          exact sd
      · exact sd
    · repeat first | refine lwp_seq fun K hK => ?_ | (with_reducible refine gA ?_; apply_assumption -exfalso -symm) | refine Stp.h ?_ | refine gF rfl ?_ | refine gG rfl ?_ | refine gM hC rfl sd ?_
      (refine end_intro (by first | exact .inr rfl | exact .inl rfl) [(1, some 1)] rfl ?_)
      obtain rfl : k = l.length := by omega
      rw [List.take_of_length_le (by omega)]
      exact sd
def heatE (l : List Int) : Int := firstS [whenS (decide ((l.length : Int) = 0)) 12, whenS (decide ((l.length : Int) > 12)) 5, firstS (rangeL (-1000) 1000 l)]
theorem heatE_ok {l : List Int} (h : heatE l = 0) : 0 < l.length ∧ l.length ≤ 12 := by
  have h1 := (firstS_cons _ _).1 h
  have h2 := (firstS_cons _ _).1 h1.2
  have a := of_decide_eq_false ((whenS_zero (by decide)).1 h1.1)
  have b := of_decide_eq_false ((whenS_zero (by decide)).1 h2.1)
  exact ⟨by omega, by omega⟩
def Heat_i (l : List Int) (σ : Ren) : Inst := { f := 54, hin := [(0, .ro l.length 1 (.ints .i64 l))], args := [.sl 0 l.length], hout := [], ret := i64 (heatE l), σ := σ }
set_option maxRecDepth 20000 in
theorem Heat_s (l : List Int) (σ : Ren) (hl : l.length ≤ 1000000) : (Heat_i l σ).ok Tryz.prog := by
  have hF := PFirst_s (rangeL (-1000) 1000 l) [(0, some 2)] (by rw [rangeL_len]; omega)
  unfold PFirst_i at hF
  rw [rangeL_len] at hF
  unfold Heat_i Inst.ok; dsimp only; refine spec_of_body (tys := tys) 1 Tryz.func54 (by kernel_rfl) rfl tys_ok rfl (Nat.le_of_ble_eq_true rfl) (fun _ _ h => (by cases h)) fun F hP hm hC hrd => ?_; conv => whnf
  repeat first | refine lwp_seq fun K hK => ?_ | (with_reducible refine gA ?_; apply_assumption -exfalso -symm) | refine Stp.h ?_ | refine gF rfl ?_ | refine gG rfl ?_ | refine gM hC rfl sd ?_
  (refine lwp_region hC ⟨[], [], [(3, PWhen_i (decide ((l.length : Int) = 0)) 12), (7, PWhen_i (decide ((l.length : Int) > 12)) 5), (9, PFirst_i [whenS (decide ((l.length : Int) = 0)) 12, whenS (decide ((l.length : Int) > 12)) 5] [(0, some 1)])]⟩ (told1 _ (by rw [hP]; exact (calls_cons (PWhen_s _ _) (calls_cons (PWhen_s _ _) (calls_cons (PFirst_s _ _ (by simp)) calls_nil))))) rfl ?_ ?_; rotate_left 1)
  · repeat first | refine lwp_seq fun K hK => ?_ | (with_reducible refine gA ?_; apply_assumption -exfalso -symm) | refine Stp.h ?_ | refine gF rfl ?_ | refine gG rfl ?_ | refine gM hC rfl sd ?_
    refine lwp_condS hC rfl sd ?_ ?_ <;> intro hb
    · have e : heatE l = firstS [whenS (decide ((l.length : Int) = 0)) 12, whenS (decide ((l.length : Int) > 12)) 5] := by
        unfold heatE
        simp only [firstS] at hb ⊢
        by_cases q1 : whenS (decide ((l.length : Int) = 0)) 12 = 0
        · by_cases q2 : whenS (decide ((l.length : Int) > 12)) 5 = 0
          · exact absurd (by rw [if_pos q1, if_pos q2]) hb
          · simp only [if_pos q1, if_neg q2]
        · simp only [if_neg q1]
      repeat first | refine lwp_seq fun K hK => ?_ | (with_reducible refine gA ?_; apply_assumption -exfalso -symm) | refine Stp.h ?_ | refine gF rfl ?_ | refine gG rfl ?_ | refine gM hC rfl sd ?_
      (refine end_intro (by first | exact .inr rfl | exact .inl rfl) [] rfl ?_)
      rw [e]
      exact ⟨rfl, trivial⟩
    · have e : heatE l = firstS (rangeL (-1000) 1000 l) := by
        have h1 := (firstS_cons _ _).1 hb
        have h2 := (firstS_cons _ _).1 h1.2
        unfold heatE
        simp only [firstS, if_pos h1.1, if_pos h2.1]
        by_cases q : firstS (rangeL (-1000) 1000 l) = 0
        · simp [q]
        · simp [q]
      clear hb
      repeat first | refine lwp_seq fun K hK => ?_ | (with_reducible refine gA ?_; apply_assumption -exfalso -symm) | refine Stp.h ?_ | refine gF rfl ?_ | refine gG rfl ?_ | refine gM hC rfl ⟨⟩ ?_
      (refine lwp_region hC ⟨[], [], [(1, HMap1_i l [(0, some 0)]), (2, { f := 53, hin := [(0, .ro l.length 1 (.ints .i64 (rangeL (-1000) 1000 l)))], args := [.sl 0 l.length], hout := [], ret := i64 (firstS (rangeL (-1000) 1000 l)), σ := [(0, some 2)] })]⟩ (told1 _ (by rw [hP]; exact (calls_cons (HMap1_s _ _ hl) (calls_cons (hF) calls_nil)))) rfl ?_ ?_; rotate_left 1)
      · repeat first | refine lwp_seq fun K hK => ?_ | (with_reducible refine gA ?_; apply_assumption -exfalso -symm) | refine Stp.h ?_ | refine gF rfl ?_ | refine gG rfl ?_ | refine gM hC rfl sd ?_
        (refine end_intro (by first | exact .inr rfl | exact .inl rfl) [] rfl ?_)
        rw [e]
        exact ⟨rfl, trivial⟩
      · exact sd
  · exact sd
def RHts_i (l : List Int) (σ : Ren) : Inst := { f := 15, hin := [(0, .ro l.length 1 (.ints .i64 l))], args := [.sl 0 l.length], hout := [], ret := i64 (heatE l), σ := σ }
theorem RHts_s (l : List Int) (σ : Ren) (hl : l.length ≤ 1000000) : (RHts_i l σ).ok Tryz.prog := by
  unfold RHts_i Inst.ok; dsimp only; refine spec_of_body (tys := tys) 1 Tryz.func15 (by kernel_rfl) rfl tys_ok rfl (Nat.le_of_ble_eq_true rfl) (fun _ _ h => (by cases h)) fun F hP hm hC hrd => ?_; conv => whnf
  repeat first | refine lwp_seq fun K hK => ?_ | (with_reducible refine gA ?_; apply_assumption -exfalso -symm) | refine Stp.h ?_ | refine gF rfl ?_ | refine gG rfl ?_ | refine gM hC rfl sd ?_
  refine lwp_condS hC rfl sd ?_ ?_ <;> intro hb
  · have e : heatE l = 12 := by unfold heatE; rw [decide_eq_true hb]; rfl
    repeat first | refine lwp_seq fun K hK => ?_ | (with_reducible refine gA ?_; apply_assumption -exfalso -symm) | refine Stp.h ?_ | refine gF rfl ?_ | refine gG rfl ?_ | refine gM hC rfl sd ?_
    (refine end_intro (by first | exact .inr rfl | exact .inl rfl) [] rfl ?_)
    rw [e]
    exact ⟨rfl, trivial⟩
  · have e1 : whenS (decide ((l.length : Int) = 0)) 12 = 0 := by rw [decide_eq_false hb]; rfl
    clear hb
    repeat first | refine lwp_seq fun K hK => ?_ | (with_reducible refine gA ?_; apply_assumption -exfalso -symm) | refine Stp.h ?_ | refine gF rfl ?_ | refine gG rfl ?_ | refine gM hC rfl sd ?_
    refine lwp_condS hC rfl sd ?_ ?_ <;> intro hb
    · have e : heatE l = 5 := by unfold heatE; rw [decide_eq_true hb]; simp only [firstS, if_pos e1]; rfl
      repeat first | refine lwp_seq fun K hK => ?_ | (with_reducible refine gA ?_; apply_assumption -exfalso -symm) | refine Stp.h ?_ | refine gF rfl ?_ | refine gG rfl ?_ | refine gM hC rfl sd ?_
      (refine end_intro (by first | exact .inr rfl | exact .inl rfl) [] rfl ?_)
      rw [e]
      exact ⟨rfl, trivial⟩
    · have e : heatE l = firstS (rangeL (-1000) 1000 l) := by
        unfold heatE
        rw [decide_eq_false hb]
        simp only [firstS, if_pos e1]
        by_cases q : firstS (rangeL (-1000) 1000 l) = 0
        · simp [q, whenS]
        · simp [q, whenS]
      clear hb
      repeat first | refine lwp_seq fun K hK => ?_ | (with_reducible refine gA ?_; apply_assumption -exfalso -symm) | refine Stp.h ?_ | refine gF rfl ?_ | refine gG rfl ?_ | refine gM hC rfl sd ?_
      (refine lwp_region hC ⟨[], [], [(1, RRanges_i (-1000) 1000 l [(0, some 0)])]⟩ (told1 _ (by rw [hP]; exact (calls_cons (RRanges_s _ _ _ _ hl) calls_nil))) rfl ?_ ?_; rotate_left 1)
      · repeat first | refine lwp_seq fun K hK => ?_ | (with_reducible refine gA ?_; apply_assumption -exfalso -symm) | refine Stp.h ?_ | refine gF rfl ?_ | refine gG rfl ?_ | refine gM hC rfl sd ?_
        (refine end_intro (by first | exact .inr rfl | exact .inl rfl) [] rfl ?_)
        rw [e]
        exact ⟨rfl, trivial⟩
      · exact sd
/-! The greatest number. -/
def grK (D : List Int) : Nat → Int
  | 0 => 0
  | k + 1 => if grK D k < D.getD k 0 then D.getD k 0 else grK D k
def grS (D : List Int) : Int := grK D D.length
def MxI_i (D : List Int) (σ : Ren) : Inst := { f := 61, hin := [(0, .ro (1 + D.length) 1 (.ints .i64 (0 :: D)))], args := [.sl 0 (1 + D.length)], hout := [], ret := i64 (grS D), σ := σ }
set_option maxRecDepth 20000 in
theorem MxI_s (D : List Int) (σ : Ren) (hl : D.length ≤ 1000000) : (MxI_i D σ).ok Tryz.prog := by
  unfold MxI_i Inst.ok; dsimp only; refine spec_of_body (tys := tys) 1 Tryz.func61 (by kernel_rfl) rfl tys_ok rfl (Nat.le_of_ble_eq_true rfl) (fun _ _ h => (by cases h)) fun F hP hm hC hrd => ?_; conv => whnf
  repeat first | refine lwp_seq fun K hK => ?_ | (with_reducible refine gA ?_; apply_assumption -exfalso -symm) | refine Stp.h ?_ | refine gF rfl ?_ | refine gG rfl ?_ | refine gM hC rfl sd ?_
  refine lwp_condS hC rfl sd ?_ ?_ <;> intro hb
  · omega
  · clear hb
    repeat first | refine lwp_seq fun K hK => ?_ | (with_reducible refine gA ?_; apply_assumption -exfalso -symm) | refine Stp.h ?_ | refine gF rfl ?_ | refine gG rfl ?_
    (refine lwp_region hC ⟨[], [], []⟩ (told0 _ _) rfl ?_ ?_; rotate_left 1)
    · rw [show ((0 : Int)).toNat = 0 from rfl]
      repeat first | refine lwp_seq fun K hK => ?_ | (with_reducible refine gA ?_; apply_assumption -exfalso -symm) | refine Stp.h ?_ | refine gF rfl ?_ | refine gG rfl ?_ | refine gM hC rfl sd ?_
      refine lwp_loop (fun k : Nat => ⟨[(4, i64 ((k + 1 : Nat) : Int)), (3, i64 (grK D k)), (0, .sl 0 (1 + D.length))], [(0, .ro (1 + D.length) 1 (.ints .i64 (0 :: D)))], 1⟩) (fun k => k ≤ D.length) (fun k => D.length - k) 0 ⟨?_, sub_intro hm [(0, some 0)] rfl ?_⟩ ?_
      · exact Nat.zero_le _
      · exact sd
      · rintro k hk
        have hkk : (((k + 1 : Nat) : Int)).toNat = k + 1 := Int.toNat_natCast _
        repeat first | refine lwp_seq fun K hK => ?_ | (with_reducible refine gA ?_; apply_assumption -exfalso -symm) | refine Stp.h ?_ | refine gF rfl ?_ | refine gG rfl ?_ | refine gM hC rfl sd ?_
        refine lwp_condS hC rfl sd ?_ ?_ <;> intro hb
        · have hk2 : k < D.length := by omega
          clear hb
          repeat first | refine lwp_seq fun K hK => ?_ | (with_reducible refine gA ?_; apply_assumption -exfalso -symm) | refine Stp.h ?_ | refine gF rfl ?_ | refine gG rfl ?_
          (refine lwp_region hC ⟨[], [], []⟩ (told0 _ _) rfl ?_ ?_; rotate_left 1)
          · rw [hkk]
            repeat first | refine lwp_seq fun K hK => ?_ | (with_reducible refine gA ?_; apply_assumption -exfalso -symm) | refine Stp.h ?_ | refine gF rfl ?_ | refine gG rfl ?_ | refine gM hC rfl sd ?_
            refine gA ⟨k + 1, ?_, ?_, sub_intro hm [(0, some 0)] rfl ?_⟩
            · omega
            · omega
            · exact sd
          · rw [hkk]
            exact sd
        · obtain rfl : k = D.length := by omega
          clear hb
          repeat first | refine lwp_seq fun K hK => ?_ | (with_reducible refine gA ?_; apply_assumption -exfalso -symm) | refine Stp.h ?_ | refine gF rfl ?_ | refine gG rfl ?_ | refine gM hC rfl sd ?_
          (refine end_intro (by first | exact .inr rfl | exact .inl rfl) [] rfl ?_)
          exact ⟨rfl, trivial⟩
    · exact sd
/-! A day that is none. -/
def dyB (n : Nat) (x : Int) : Bool := bif decide (x < 0) then true else decide (x ≥ n)
theorem dyB_false {n : Nat} {x : Int} (h : dyB n x = false) : 0 ≤ x ∧ x < n := by
  unfold dyB at h
  by_cases h1 : x < 0 <;> by_cases h2 : x ≥ n <;> simp [h1, h2] at h <;> omega
def dyIn (H D : List Int) : List (Nat × Chunk) := [(0, .ro H.length 1 (.ints .i64 H)), (1, .rb 23 [.sl 0 H.length]), (2, .ro D.length 1 (.ints .i64 D))]
def Dy1_i (H : List Int) (x : Int) (σ : Ren) : Inst := { f := 58, hin := [(0, .ro H.length 1 (.ints .i64 H)), (1, .rb 23 [.sl 0 H.length])], args := [i64 x, .ptr 1 0 0 0], hout := [], ret := bl (dyB H.length x), σ := σ }
theorem Dy1_s (H : List Int) (x : Int) (σ : Ren) (hH : H.length ≤ 1000000) : (Dy1_i H x σ).ok Tryz.prog := by
  unfold Dy1_i Inst.ok; dsimp only; refine spec_of_body (tys := tys) 2 Tryz.func58 (by kernel_rfl) rfl tys_ok rfl (Nat.le_of_ble_eq_true rfl) (fun _ _ h => (by cases h)) fun F hP hm hC hrd => ?_; conv => whnf
  repeat first | refine lwp_seq fun K hK => ?_ | (with_reducible refine gA ?_; apply_assumption -exfalso -symm) | refine Stp.h ?_ | refine gF rfl ?_ | refine gG rfl ?_ | refine gM hC rfl sd ?_
  (refine end_intro (by first | exact .inr rfl | exact .inl rfl) [] rfl ?_)
  exact ⟨rfl, trivial⟩
def IxD_i (H D : List Int) (σ : Ren) : Inst := { f := 122, hin := dyIn H D, args := [.sl 2 D.length, .fn 58 [] [.ptr 1 0 0 0]], hout := [], ret := i64 (idxF (dyB H.length) D), σ := σ }
set_option maxRecDepth 20000 in
theorem IxD_s (H D : List Int) (σ : Ren) (hH : H.length ≤ 1000000) (hD : D.length ≤ 1000000) : (IxD_i H D σ).ok Tryz.prog := by
  unfold IxD_i dyIn Inst.ok; dsimp only; refine spec_of_body (tys := tys) 3 Tryz.func122 (by kernel_rfl) rfl tys_ok rfl (Nat.le_of_ble_eq_true rfl) (fun _ _ h => (by cases h)) fun F hP hm hC hrd => ?_; conv => whnf
  repeat first | refine lwp_seq fun K hK => ?_ | (with_reducible refine gA ?_; apply_assumption -exfalso -symm) | refine Stp.h ?_ | refine gF rfl ?_ | refine gG rfl ?_ | refine gM hC rfl sd ?_
  refine lwp_loop (fun k : Nat => ⟨[(8, i64 k), (7, i64 D.length), (0, .sl 2 D.length), (1, .fn 58 [] [.ptr 1 0 0 0])], [(0, .ro H.length 1 (.ints .i64 H)), (1, .rb 23 [.sl 0 H.length]), (2, .ro D.length 1 (.ints .i64 D))], 3⟩) (fun k => k ≤ D.length ∧ ∀ i : Nat, i < k → dyB H.length (D.getD i 0) = false) (fun k => D.length - k) 0 ⟨?_, sub_intro hm [(0, some 0), (1, some 1), (2, some 2)] rfl ?_⟩ ?_
  · exact ⟨Nat.zero_le _, fun i hi => absurd hi (Nat.not_lt_zero _)⟩
  · exact sd
  · rintro k ⟨hk, hf⟩
    have hkk : ((k : Int)).toNat = k := Int.toNat_natCast k
    have HF := Lib.hid hf
    clear hf
    repeat first | refine lwp_seq fun K hK => ?_ | (with_reducible refine gA ?_; apply_assumption -exfalso -symm) | refine Stp.h ?_ | refine gF rfl ?_ | refine gG rfl ?_ | refine gM hC rfl sd ?_
    refine lwp_condS hC rfl sd ?_ ?_ <;> intro hb
    · have hk2 : k < D.length := by omega
      repeat first | refine lwp_seq fun K hK => ?_ | (with_reducible refine gA ?_; apply_assumption -exfalso -symm) | refine Stp.h ?_ | refine gF rfl ?_ | refine gG rfl ?_ | refine gM hC rfl ⟨⟩ ?_
      (refine lwp_region hC ⟨[], [], [(5, Dy1_i H (D.getD k 0) [(0, some 0), (1, some 1)])]⟩ (told1 _ (by rw [hP]; exact (calls_cons (Dy1_s _ _ _ hH) calls_nil))) rfl ?_ ?_; rotate_left 1)
      · repeat first | refine lwp_seq fun K hK => ?_ | (with_reducible refine gA ?_; apply_assumption -exfalso -symm) | refine Stp.h ?_ | refine gF rfl ?_ | refine gG rfl ?_ | refine gM hC rfl sd ?_
        refine lwp_condS hC rfl sd ?_ ?_ <;> intro hb
        · have hE := idxF_hit hk2 hb HF.out
          repeat first | refine lwp_seq fun K hK => ?_ | (with_reducible refine gA ?_; apply_assumption -exfalso -symm) | refine Stp.h ?_ | refine gF rfl ?_ | refine gG rfl ?_ | refine gM hC rfl sd ?_
          (refine end_intro (by first | exact .inr rfl | exact .inl rfl) [] rfl ?_)
          rw [hE]
          exact sd
        · repeat first | refine lwp_seq fun K hK => ?_ | (with_reducible refine gA ?_; apply_assumption -exfalso -symm) | refine Stp.h ?_ | refine gF rfl ?_ | refine gG rfl ?_ | refine gM hC rfl sd ?_
          refine gA ⟨k + 1, ?_, ?_, sub_intro hm [(0, some 0), (1, some 1), (2, some 2)] rfl ?_⟩
          · refine ⟨hk2, fun i hi => ?_⟩
            by_cases e : i = k
            · subst e; exact hb
            · exact HF.out i (by omega)
          · omega
          · exact sd
      · rw [hkk]
        exact sd
    · have hk3 : k = D.length := by omega
      subst hk3
      have hE := idxF_none HF.out
      repeat first | refine lwp_seq fun K hK => ?_ | (with_reducible refine gA ?_; apply_assumption -exfalso -symm) | refine Stp.h ?_ | refine gF rfl ?_ | refine gG rfl ?_ | refine gM hC rfl sd ?_
      (refine end_intro (by first | exact .inr rfl | exact .inl rfl) [] rfl ?_)
      rw [hE]
      exact sd
def CfD_i (H D : List Int) (σ : Ren) : Inst := { f := 57, hin := dyIn H D, args := [.sl 2 D.length, .fn 58 [] [.ptr 1 0 0 0]], hout := [], ret := bl (D.any (dyB H.length)), σ := σ }
theorem CfD_s (H D : List Int) (σ : Ren) (hH : H.length ≤ 1000000) (hD : D.length ≤ 1000000) : (CfD_i H D σ).ok Tryz.prog := by
  have hsg := idxF_sign (dyB H.length) D
  unfold CfD_i dyIn Inst.ok; dsimp only; refine spec_of_body (tys := tys) 3 Tryz.func57 (by kernel_rfl) rfl tys_ok rfl (Nat.le_of_ble_eq_true rfl) (fun _ _ h => (by cases h)) fun F hP hm hC hrd => ?_; conv => whnf
  repeat first | refine lwp_seq fun K hK => ?_ | (with_reducible refine gA ?_; apply_assumption -exfalso -symm) | refine Stp.h ?_ | refine gF rfl ?_ | refine gG rfl ?_ | refine gM hC rfl ⟨⟩ ?_
  (refine lwp_region hC ⟨[], [], [(2, IxD_i H D [(0, some 0), (1, some 1), (2, some 2)])]⟩ (told1 _ (by rw [hP]; exact (calls_cons (IxD_s _ _ _ hH hD) calls_nil))) rfl ?_ ?_; rotate_left 1)
  · repeat first | refine lwp_seq fun K hK => ?_ | (with_reducible refine gA ?_; apply_assumption -exfalso -symm) | refine Stp.h ?_ | refine gF rfl ?_ | refine gG rfl ?_ | refine gM hC rfl sd ?_
    (refine end_intro (by first | exact .inr rfl | exact .inl rfl) [] rfl ?_)
    refine ⟨?_, trivial⟩
    exact hsg.symm
  · exact sd

end Go.Proofs.YtlhgddgoblliaaaGreatDoor
