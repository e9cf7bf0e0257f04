/- Chapter 5: a ride turned, the program's. -/
import Derived.Test.YtoopgdchiljmiaaGreatDoorFb
import Derived.Test.YtoopgdchiljmiaaGreatDoorFc
import Derived.Test.YtoopgdchiljmiaaGreatDoorEb
set_option linter.unusedVariables false
set_option linter.unusedSimpArgs false
namespace Go.Proofs.YtoopgdchiljmiaaGreatDoor
open Go.RowKit Go.Sym

def turnE (m s : List Th) (p q : Int) : Int := firstS [rideS m s, withinS p 0 100000000, withinS q 0 100000000]
def negS (m s : List Th) (p q : Int) : Bool := (turnL p m ++ turnL q s).any ngB
def turnR (m s : List Th) (p q : Int) : (List Th × List Th) × Int := if turnE m s p q ≠ 0 then (([], []), turnE m s p q) else if negS m s p q = true then (([], []), 3) else ((turnL p m, turnL q s), 0)
structure Valid (m s : List Th) : Prop where
  hm : m.length ≤ 64
  hs : s.length ≤ 64
  pm : placesOk m
  ps : placesOk s
theorem valid_of {m s : List Th} (h : rideS m s = 0) : Valid m s := by
  obtain ⟨h4, h5⟩ := rideS_zero h
  exact ⟨(checkS_zero h4).1, (checkS_zero h5).1, (checkS_zero h4).2, (checkS_zero h5).2⟩
theorem turnE_zero {m s : List Th} {p q : Int} (h : turnE m s p q = 0) : Valid m s ∧ (0 ≤ p ∧ p ≤ 100000000) ∧ 0 ≤ q ∧ q ≤ 100000000 := by
  unfold turnE at h
  rw [firstS_cons, firstS_cons, firstS_cons, withinS_zero, withinS_zero] at h
  exact ⟨valid_of h.1, h.2.1, h.2.2.1⟩
def PTurned_i (m s : List Th) (p q : Int) (σ : Ren) : Inst := { f := 58, hin := rideIn m s, args := [rdA m s, i64 p, i64 q], hout := [(2, .row 179 (turnR m s p q).1.1.length 2 (thC (turnR m s p q).1.1)), (3, .row 180 (turnR m s p q).1.2.length 2 (thC (turnR m s p q).1.2))], ret := .tup [.agg [.sl 2 (turnR m s p q).1.1.length, .sl 3 (turnR m s p q).1.2.length], i64 (turnR m s p q).2], σ := σ }
set_option maxRecDepth 20000 in
set_option maxHeartbeats 4000000 in
theorem PTurned_s (m s : List Th) (p q : Int) (σ : Ren) (hm' : m.length ≤ 1000000) (hs : s.length ≤ 1000000) : (PTurned_i m s p q σ).ok Tryz.prog := by
  have l1 := turnL_len p m
  have l2 := turnL_len q s
  unfold PTurned_i Inst.ok; dsimp only; refine spec_of_body (tys := tys) 2 Tryz.func58 (by kernel_rfl) rfl tys_ok rfl (Nat.le_of_ble_eq_true rfl) (fun _ _ h => (by cases h)) fun F hP hm hC hrd => ?_; conv => whnf
  repeat first | refine lwp_seq fun K hK => ?_ | ((with_reducible refine gA ?_); apply_assumption -exfalso -symm) | refine gB ?_ | refine gC ?_ | refine gD ?_ | refine gE ?_ | refine gF rfl ?_ | refine gG rfl ?_ | refine gH ?_ | refine gI ?_ | refine gJ ?_ | refine gK ?_ | refine gL ?_ | refine lwp_region hC ⟨[], [], []⟩ (told0 _ _) rfl ⟨⟩ ?_ | refine lwp_region hC ⟨[], [], []⟩ (told0 _ _) rfl (by exact sd) ?_
  (refine lwp_region hC ⟨[], [], [(1, Ride_i m s [(0, some 0), (1, some 1)]), (3, Count_i p), (5, Count_i q), (7, AFirst_i [rideS m s, withinS p 0 100000000, withinS q 0 100000000] [(0, some 4)])]⟩ (told1 _ (by rw [hP]; exact (calls_cons (Ride_s _ _ _ hm' hs) (calls_cons (Count_s _) (calls_cons (Count_s _) (calls_cons (AFirst_s _ _ (by simp)) calls_nil)))))) rfl ?_ ?_; rotate_left 1)
  · repeat first | refine lwp_seq fun K hK => ?_ | ((with_reducible refine gA ?_); apply_assumption -exfalso -symm) | refine gB ?_ | refine gC ?_ | refine gD ?_ | refine gE ?_ | refine gF rfl ?_ | refine gG rfl ?_ | refine gH ?_ | refine gI ?_ | refine gJ ?_ | refine gK ?_ | refine gL ?_ | refine lwp_region hC ⟨[], [], []⟩ (told0 _ _) rfl ⟨⟩ ?_ | refine lwp_region hC ⟨[], [], []⟩ (told0 _ _) rfl (by exact sd) ?_
    (refine lwp_cond hC rfl (by first | exact ⟨⟩ | exact sd) (fun hb => ?_) (fun hb => ?_) <;> (try simp only [decide_eq_true_eq, decide_eq_false_iff_not, Bool.not_eq_true', Bool.not_eq_false', ne_eq, Decidable.not_not] at hb))
    · have hE : turnR m s p q = (([], []), turnE m s p q) := if_pos hb
      rw [hE]
      repeat first | refine lwp_seq fun K hK => ?_ | ((with_reducible refine gA ?_); apply_assumption -exfalso -symm) | refine gB ?_ | refine gC ?_ | refine gD ?_ | refine gE ?_ | refine gF rfl ?_ | refine gG rfl ?_ | refine gH ?_ | refine gI ?_ | refine gJ ?_ | refine gK ?_ | refine gL ?_ | refine lwp_region hC ⟨[], [], []⟩ (told0 _ _) rfl ⟨⟩ ?_ | refine lwp_region hC ⟨[], [], []⟩ (told0 _ _) rfl (by exact sd) ?_
      (refine end_intro (by first | exact .inr rfl | exact .inl rfl) [(2, none), (3, none)] rfl ?_)
      exact sd
    · have hz : turnE m s p q = 0 := hb
      clear hb
      obtain ⟨hv, hp, hq⟩ := turnE_zero hz
      have hv1 := hv.hm
      have hv2 := hv.hs
      repeat first | refine lwp_seq fun K hK => ?_ | ((with_reducible refine gA ?_); apply_assumption -exfalso -symm) | refine gB ?_ | refine gC ?_ | refine gD ?_ | refine gE ?_ | refine gF rfl ?_ | refine gG rfl ?_ | refine gH ?_ | refine gI ?_ | refine gJ ?_ | refine gK ?_ | refine gL ?_ | refine lwp_region hC ⟨[], [], []⟩ (told0 _ _) rfl ⟨⟩ ?_
      (refine lwp_drawn hC (by rw [hP]; exact mixed) ⟨[], [], [(2, MMapped_i m [(0, some 0)]), (4, PTu_i p m [(0, some 5)]), (7, SMapped_i s [(0, some 1)]), (9, PTu_i q s [(0, some 7)])]⟩ (told1 _ (by rw [hP]; exact (calls_cons (MMapped_s _ _ hm') (calls_cons (PTu_s _ _ _ hm' hp hv.pm) (calls_cons (SMapped_s _ _ hs) (calls_cons (PTu_s _ _ _ hs hq hv.ps) calls_nil)))))) [0, 1, 3, 0, 15, 0, 32, 127, 0, 511, 1023, 2047] 9 rfl ?_ ?_; rotate_left 1)
      · repeat first | refine lwp_seq fun K hK => ?_ | ((with_reducible refine gA ?_); apply_assumption -exfalso -symm) | refine gB ?_ | refine gC ?_ | refine gD ?_ | refine gE ?_ | refine gF rfl ?_ | refine gG rfl ?_ | refine gH ?_ | refine gI ?_ | refine gJ ?_ | refine gK ?_ | refine gL ?_ | refine lwp_region hC ⟨[], [], []⟩ (told0 _ _) rfl ⟨⟩ ?_
        (refine lwp_region hC ⟨[], [], [(3, Cat_i (turnL p m) (turnL q s) [(0, some 9), (1, some 6), (2, some 8)]), (4, CfG_i (turnL p m ++ turnL q s) [(0, some 10)])]⟩ (told1 _ (by rw [hP]; exact (calls_cons (Cat_s _ _ _ (by omega) (by omega)) (calls_cons (CfG_s _ _ (by rw [List.length_append]; omega)) calls_nil)))) rfl ?_ ?_; rotate_left 1)
        · repeat first | refine lwp_seq fun K hK => ?_ | ((with_reducible refine gA ?_); apply_assumption -exfalso -symm) | refine gB ?_ | refine gC ?_ | refine gD ?_ | refine gE ?_ | refine gF rfl ?_ | refine gG rfl ?_ | refine gH ?_ | refine gI ?_ | refine gJ ?_ | refine gK ?_ | refine gL ?_ | refine lwp_region hC ⟨[], [], []⟩ (told0 _ _) rfl ⟨⟩ ?_ | refine lwp_region hC ⟨[], [], []⟩ (told0 _ _) rfl (by exact sd) ?_
          (refine lwp_cond hC rfl (by first | exact ⟨⟩ | exact sd) (fun hb => ?_) (fun hb => ?_) <;> (try simp only [decide_eq_true_eq, decide_eq_false_iff_not, Bool.not_eq_true', Bool.not_eq_false', ne_eq, Decidable.not_not] at hb))
          · have hE : turnR m s p q = (([], []), 3) := by
              unfold turnR
              rw [if_neg (by rw [hz]; decide), if_pos (show negS m s p q = true from hb)]
            rw [hE]
            repeat first | refine lwp_seq fun K hK => ?_ | ((with_reducible refine gA ?_); apply_assumption -exfalso -symm) | refine gB ?_ | refine gC ?_ | refine gD ?_ | refine gE ?_ | refine gF rfl ?_ | refine gG rfl ?_ | refine gH ?_ | refine gI ?_ | refine gJ ?_ | refine gK ?_ | refine gL ?_ | refine lwp_region hC ⟨[], [], []⟩ (told0 _ _) rfl ⟨⟩ ?_ | refine lwp_region hC ⟨[], [], []⟩ (told0 _ _) rfl (by exact sd) ?_
            (refine end_intro (by first | exact .inr rfl | exact .inl rfl) [(2, none), (3, none)] rfl ?_)
            exact sd
          · have hE : turnR m s p q = ((turnL p m, turnL q s), 0) := by
              unfold turnR
              rw [if_neg (by rw [hz]; decide), if_neg (by rw [show negS m s p q = false by unfold negS; first | exact hb | (simpa using hb)]; decide)]
            clear hb
            rw [hE]
            repeat first | refine lwp_seq fun K hK => ?_ | ((with_reducible refine gA ?_); apply_assumption -exfalso -symm) | refine gB ?_ | refine gC ?_ | refine gD ?_ | refine gE ?_ | refine gF rfl ?_ | refine gG rfl ?_ | refine gH ?_ | refine gI ?_ | refine gJ ?_ | refine gK ?_ | refine gL ?_ | refine lwp_region hC ⟨[], [], []⟩ (told0 _ _) rfl ⟨⟩ ?_
            (refine lwp_region hC ⟨[], [], [(1, MkMap_i (turnL p m) [(0, some 6)]), (3, SgMap_i (turnL q s) [(0, some 8)])]⟩ (told1 _ (by rw [hP]; exact (calls_cons (MkMap_s _ _ (by omega)) (calls_cons (SgMap_s _ _ (by omega)) calls_nil)))) rfl ?_ ?_; rotate_left 1)
            · repeat first | refine lwp_seq fun K hK => ?_ | ((with_reducible refine gA ?_); apply_assumption -exfalso -symm) | refine gB ?_ | refine gC ?_ | refine gD ?_ | refine gE ?_ | refine gF rfl ?_ | refine gG rfl ?_ | refine gH ?_ | refine gI ?_ | refine gJ ?_ | refine gK ?_ | refine gL ?_ | refine lwp_region hC ⟨[], [], []⟩ (told0 _ _) rfl ⟨⟩ ?_ | refine lwp_region hC ⟨[], [], []⟩ (told0 _ _) rfl (by exact sd) ?_
              (refine end_intro (by first | exact .inr rfl | exact .inl rfl) [(2, some 11), (3, some 12)] rfl ?_)
              exact sd
            · exact sd
        · exact sd
      · exact sd
  · exact sd

end Go.Proofs.YtoopgdchiljmiaaGreatDoor
