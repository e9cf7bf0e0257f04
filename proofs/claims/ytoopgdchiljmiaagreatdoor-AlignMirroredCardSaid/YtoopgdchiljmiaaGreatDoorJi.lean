/- AlignMirrored: the law gives true. -/
import Derived.Test.YtoopgdchiljmiaaGreatDoorJj
import Derived.Test.YtoopgdchiljmiaaGreatDoorFh
import Derived.Test.YtoopgdchiljmiaaGreatDoorDy
set_option linter.unusedVariables false
set_option linter.unusedSimpArgs false
namespace Go.Proofs.YtoopgdchiljmiaaGreatDoor
open Go.RowKit Go.Sym

def LawMi_i (m s : List Th) (l : List (Int × Int)) (r b n : Int) : Inst := { f := 8, gl := lawG, hin := [(0, pwC), (1, fmC), (2, .ro m.length 2 (thC m)), (3, .ro s.length 2 (thC s)), (4, .ro l.length 2 (prC l))], args := [.agg [.sl 2 m.length, .sl 3 s.length], .sl 4 l.length, .agg [i64 r, i64 b, i64 n]], hout := [], ret := bl true, σ := [] }
set_option maxRecDepth 200000 in
set_option maxHeartbeats 16000000 in
theorem LawMi_s (m s : List Th) (l : List (Int × Int)) (r b n : Int) (hmm : m.length ≤ 9223372036854775807) (hss : s.length ≤ 9223372036854775807) (hll : l.length ≤ 9223372036854775807) : (LawMi_i m s l r b n).ok Tryz.prog := by
  unfold LawMi_i Inst.ok; dsimp only; refine spec_of_body (tys := tys) 5 Tryz.func8 (by kernel_rfl) rfl tys_ok rfl (Nat.le_of_ble_eq_true rfl) (fun g i h => ?_) fun F hP hm hC hrd => ?_
  · simp only [List.mem_cons, List.not_mem_nil, or_false, Prod.mk.injEq] at h
    omega
  conv => whnf
  repeat first | refine lwp_seq fun K hK => ?_ | ((with_reducible refine gA ?_); apply_assumption -exfalso -symm) | refine gB ?_ | refine gC ?_ | refine gD ?_ | refine gE ?_ | refine gF rfl ?_ | refine gG rfl ?_ | refine gH ?_ | refine gI ?_ | refine gJ ?_ | refine gK ?_ | refine gL ?_ | refine lwp_region hC ⟨[], [], []⟩ (told0 _ _) rfl ⟨⟩ ?_
  by_cases hS : shortS m s = true
  · have hkinds : kindsOk m ∧ kindsOk s := by
      unfold shortS at hS
      simp only [Bool.and_eq_true] at hS
      exact ⟨kinds_of hS.1, kinds_of hS.2.1⟩
    obtain ⟨km, ks⟩ := hkinds
    have hlens : m.length ≤ 1000000 ∧ s.length ≤ 1000000 := by
      unfold shortS at hS
      simp only [Bool.and_eq_true] at hS
      have h3 := hS.2.2
      unfold lenS at h3
      by_cases q1 : (m.length : Int) ≤ 8 <;> by_cases q2 : (m.length : Int) = 65 <;> by_cases q3 : (s.length : Int) ≤ 8 <;> by_cases q4 : (s.length : Int) = 65 <;> simp [q1, q2, q3, q4] at h3 <;> omega
    obtain ⟨hm', hs'⟩ := hlens
    by_cases hrz : rideS m s = 0
    · by_cases c1 : (8 : Int) < m.length
      · skip
        (refine lwp_region hC ⟨[(7, { b := some false }), (12, { b := some false }), (18, { b := some true }), (19, { g := some false }), (20, { g := some false }), (21, { g := some false }), (22, { g := some false }), (25, { g := some false }), (26, { g := some false }), (27, { g := some false }), (30, { g := some false }), (31, { g := some false }), (32, { g := some false }), (33, { g := some false }), (36, { g := some false }), (37, { g := some false }), (38, { g := some false }), (39, { g := some false }), (42, { g := some false }), (43, { g := some false }), (44, { g := some false }), (45, { g := some false })], [], [(0, Awake_i), (4, Short_i m s [(0, some 2), (1, some 3)]), (9, RRide_i m s [(0, some 2), (1, some 3)])]⟩ (told1 _ (by rw [hP]; exact (calls_cons (Awake_s) (calls_cons (Short_s _ _ _ hmm hss) (calls_cons (RRide_s _ _ _ hm' hs' km ks) calls_nil))))) rfl ?_ ?_; rotate_left 1)
        · repeat first | refine lwp_seq fun K hK => ?_ | ((with_reducible refine gA ?_); apply_assumption -exfalso -symm) | refine gB ?_ | refine gC ?_ | refine gD ?_ | refine gE ?_ | refine gF rfl ?_ | refine gG rfl ?_ | refine gH ?_ | refine gI ?_ | refine gJ ?_ | refine gK ?_ | refine gL ?_ | refine lwp_region hC ⟨[], [], []⟩ (told0 _ _) rfl ⟨⟩ ?_
          (refine lwp_cond hC rfl (by first | exact ⟨⟩ | exact sd) (fun hb => ?_) (fun hb => ?_) <;> (try simp only [decide_eq_true_eq, decide_eq_false_iff_not, Bool.not_eq_true', Bool.not_eq_false', ne_eq, Decidable.not_not] at hb))
          · clear hb
            repeat first | refine lwp_seq fun K hK => ?_ | ((with_reducible refine gA ?_); apply_assumption -exfalso -symm) | refine gB ?_ | refine gC ?_ | refine gD ?_ | refine gE ?_ | refine gF rfl ?_ | refine gG rfl ?_ | refine gH ?_ | refine gI ?_ | refine gJ ?_ | refine gK ?_ | refine gL ?_ | refine lwp_region hC ⟨[], [], []⟩ (told0 _ _) rfl ⟨⟩ ?_
            (refine lwp_region hC ⟨[], [], [(0, Awake_i)]⟩ (told1 _ (by rw [hP]; exact (calls_cons (Awake_s) calls_nil))) rfl ?_ ?_; rotate_left 1)
            · repeat first | refine lwp_seq fun K hK => ?_ | ((with_reducible refine gA ?_); apply_assumption -exfalso -symm) | refine gB ?_ | refine gC ?_ | refine gD ?_ | refine gE ?_ | refine gF rfl ?_ | refine gG rfl ?_ | refine gH ?_ | refine gI ?_ | refine gJ ?_ | refine gK ?_ | refine gL ?_ | refine lwp_region hC ⟨[], [], []⟩ (told0 _ _) rfl ⟨⟩ ?_
              (refine end_intro (by first | exact .inr rfl | exact .inl rfl) [] rfl ?_)
              exact ⟨rfl, trivial⟩
            · exact sd
          · exact absurd hb (by simp)
        · simp [AllL, All, cd_p, cp_p, cv_p, *] <;> first | omega | (intro h9; simp [h9] at *)
      · by_cases c2 : (8 : Int) < s.length
        · skip
          (refine lwp_region hC ⟨[(7, { b := some false }), (12, { b := some false }), (18, { b := some false }), (24, { b := some true }), (25, { g := some false }), (26, { g := some false }), (27, { g := some false }), (30, { g := some false }), (31, { g := some false }), (32, { g := some false }), (33, { g := some false }), (36, { g := some false }), (37, { g := some false }), (38, { g := some false }), (39, { g := some false }), (42, { g := some false }), (43, { g := some false }), (44, { g := some false }), (45, { g := some false })], [], [(0, Awake_i), (4, Short_i m s [(0, some 2), (1, some 3)]), (9, RRide_i m s [(0, some 2), (1, some 3)])]⟩ (told1 _ (by rw [hP]; exact (calls_cons (Awake_s) (calls_cons (Short_s _ _ _ hmm hss) (calls_cons (RRide_s _ _ _ hm' hs' km ks) calls_nil))))) rfl ?_ ?_; rotate_left 1)
          · repeat first | refine lwp_seq fun K hK => ?_ | ((with_reducible refine gA ?_); apply_assumption -exfalso -symm) | refine gB ?_ | refine gC ?_ | refine gD ?_ | refine gE ?_ | refine gF rfl ?_ | refine gG rfl ?_ | refine gH ?_ | refine gI ?_ | refine gJ ?_ | refine gK ?_ | refine gL ?_ | refine lwp_region hC ⟨[], [], []⟩ (told0 _ _) rfl ⟨⟩ ?_
            (refine lwp_cond hC rfl (by first | exact ⟨⟩ | exact sd) (fun hb => ?_) (fun hb => ?_) <;> (try simp only [decide_eq_true_eq, decide_eq_false_iff_not, Bool.not_eq_true', Bool.not_eq_false', ne_eq, Decidable.not_not] at hb))
            · clear hb
              repeat first | refine lwp_seq fun K hK => ?_ | ((with_reducible refine gA ?_); apply_assumption -exfalso -symm) | refine gB ?_ | refine gC ?_ | refine gD ?_ | refine gE ?_ | refine gF rfl ?_ | refine gG rfl ?_ | refine gH ?_ | refine gI ?_ | refine gJ ?_ | refine gK ?_ | refine gL ?_ | refine lwp_region hC ⟨[], [], []⟩ (told0 _ _) rfl ⟨⟩ ?_
              (refine lwp_region hC ⟨[], [], [(0, Awake_i)]⟩ (told1 _ (by rw [hP]; exact (calls_cons (Awake_s) calls_nil))) rfl ?_ ?_; rotate_left 1)
              · repeat first | refine lwp_seq fun K hK => ?_ | ((with_reducible refine gA ?_); apply_assumption -exfalso -symm) | refine gB ?_ | refine gC ?_ | refine gD ?_ | refine gE ?_ | refine gF rfl ?_ | refine gG rfl ?_ | refine gH ?_ | refine gI ?_ | refine gJ ?_ | refine gK ?_ | refine gL ?_ | refine lwp_region hC ⟨[], [], []⟩ (told0 _ _) rfl ⟨⟩ ?_
                (refine end_intro (by first | exact .inr rfl | exact .inl rfl) [] rfl ?_)
                exact ⟨rfl, trivial⟩
              · exact sd
            · exact absurd hb (by simp)
          · simp [AllL, All, cd_p, cp_p, cv_p, *] <;> first | omega | (intro h9; simp [h9] at *)
        · by_cases hQ : shortPS l = true
          · have hl' : l.length ≤ 1000000 := by
              unfold shortPS at hQ
              by_cases q1 : (l.length : Int) ≤ 9 <;> by_cases q2 : (l.length : Int) = 65 <;> simp [q1, q2] at hQ <;> omega
            by_cases hpz : rpairsS m s l = 0
            · by_cases hsz : slipS r b = 0
              · by_cases hnz : withinS n 0 100000 = 0
                · (refine lwp_region hC ⟨[(7, { b := some false }), (12, { b := some false }), (18, { b := some false }), (24, { b := some false }), (29, { b := some false }), (35, { b := some false }), (41, { b := some false })], [], [(0, Awake_i), (4, Short_i m s [(0, some 2), (1, some 3)]), (9, RRide_i m s [(0, some 2), (1, some 3)]), (26, ShortP_i l [(0, some 4)]), (32, RPairs_i m s l [(0, some 2), (1, some 3), (2, some 4)]), (38, RSlip_i r b), (44, CheckRange_i n 0 100000)]⟩ (told1 _ (by rw [hP]; exact (calls_cons (Awake_s) (calls_cons (Short_s _ _ _ hmm hss) (calls_cons (RRide_s _ _ _ hm' hs' km ks) (calls_cons (ShortP_s _ _ hll) (calls_cons (RPairs_s _ _ _ _ hm' hs' hl') (calls_cons (RSlip_s _ _) (calls_cons (CheckRange_s _ _ _) calls_nil))))))))) rfl ?_ ?_; rotate_left 1)
                  · repeat first | refine lwp_seq fun K hK => ?_ | ((with_reducible refine gA ?_); apply_assumption -exfalso -symm) | refine gB ?_ | refine gC ?_ | refine gD ?_ | refine gE ?_ | refine gF rfl ?_ | refine gG rfl ?_ | refine gH ?_ | refine gI ?_ | refine gJ ?_ | refine gK ?_ | refine gL ?_ | refine lwp_region hC ⟨[], [], []⟩ (told0 _ _) rfl ⟨⟩ ?_
                    (refine lwp_cond hC rfl (by first | exact ⟨⟩ | exact sd) (fun hb => ?_) (fun hb => ?_) <;> (try simp only [decide_eq_true_eq, decide_eq_false_iff_not, Bool.not_eq_true', Bool.not_eq_false', ne_eq, Decidable.not_not] at hb))
                    · exact absurd hb (by simp [hnz])
                    · clear hb
                      have hn0 : 0 ≤ n ∧ n ≤ 100000 := by rw [withinS_zero] at hnz; omega
                      have htE : turnE m s 100000 100000 = 0 := by
                        unfold turnE
                        rw [firstS_cons, firstS_cons, firstS_cons, withinS_zero]
                        exact ⟨hrz, by omega, by omega, rfl⟩
                      repeat first | refine lwp_seq fun K hK => ?_ | ((with_reducible refine gA ?_); apply_assumption -exfalso -symm) | refine gB ?_ | refine gC ?_ | refine gD ?_ | refine gE ?_ | refine gF rfl ?_ | refine gG rfl ?_ | refine gH ?_ | refine gI ?_ | refine gJ ?_ | refine gK ?_ | refine gL ?_ | refine lwp_region hC ⟨[], [], []⟩ (told0 _ _) rfl ⟨⟩ ?_
                      (refine lwp_region hC ⟨[], [], [(1, Own_i m s [(0, some 2), (1, some 3)]), (2, PTurned_i m s 100000 100000 [(0, some 7), (1, some 8)])]⟩ (told1 _ (by rw [hP]; exact (calls_cons (Own_s _ _ _ hm' hs') (calls_cons (PTurned_s _ _ _ _ _ hm' hs') calls_nil)))) rfl ?_ ?_; rotate_left 1)
                      · by_cases hng : negS m s 100000 100000 = true
                        · rw [show turnR m s 100000 100000 = (([], []), 3) by unfold turnR; rw [if_neg (by rw [htE]; decide), if_pos hng]]
                          dsimp only
                          have hfar := neg_far hrz hng
                          have eM : (if 1 < (m.length : Int) then (m.length : Int) - 1 else 0).toNat = m.length - 1 := by split <;> omega
                          have eS : (if 1 < (s.length : Int) then (s.length : Int) - 1 else 0).toNat = s.length - 1 := by split <;> omega
                          repeat first | refine lwp_seq fun K hK => ?_ | ((with_reducible refine gA ?_); apply_assumption -exfalso -symm) | refine gB ?_ | refine gC ?_ | refine gD ?_ | refine gE ?_ | refine gF rfl ?_ | refine gG rfl ?_ | refine gH ?_ | refine gI ?_ | refine gJ ?_ | refine gK ?_ | refine gL ?_ | refine lwp_region hC ⟨[], [], []⟩ (told0 _ _) rfl ⟨⟩ ?_
                          (refine lwp_cond hC rfl (by first | exact ⟨⟩ | exact sd) (fun hb => ?_) (fun hb => ?_) <;> (try simp only [decide_eq_true_eq, decide_eq_false_iff_not, Bool.not_eq_true', Bool.not_eq_false', ne_eq, Decidable.not_not] at hb))
                          · clear hb
                            by_cases f1 : 0 < m.length
                            · by_cases f2 : 100000 < (m.getD (m.length - 1) thD).place
                              · rw [List.getD_eq_getElem?_getD] at f2
                                repeat first | refine lwp_seq fun K hK => ?_ | ((with_reducible refine gA ?_); apply_assumption -exfalso -symm) | refine gB ?_ | refine gC ?_ | refine gD ?_ | refine gE ?_ | refine gF rfl ?_ | refine gG rfl ?_ | refine gH ?_ | refine gI ?_ | refine gJ ?_ | refine gK ?_ | refine gL ?_ | refine lwp_region hC ⟨[], [], []⟩ (told0 _ _) rfl ⟨⟩ ?_
                                (refine lwp_region hC ⟨[(4, { b := some true }), (17, { b := some true }), (18, { g := some false }), (19, { g := some false }), (20, { g := some false }), (21, { g := some false }), (22, { g := some false }), (23, { g := some false }), (24, { g := some false }), (25, { g := some false }), (26, { g := some false }), (27, { g := some false }), (28, { g := some false }), (29, { g := some false }), (30, { g := some false }), (31, { g := some false }), (32, { g := some false }), (33, { g := some false }), (34, { g := some false })], [], []⟩ (told0 _ _) rfl ?_ ?_; rotate_left 1)
                                · repeat first | refine lwp_seq fun K hK => ?_ | ((with_reducible refine gA ?_); apply_assumption -exfalso -symm) | refine gB ?_ | refine gC ?_ | refine gD ?_ | refine gE ?_ | refine gF rfl ?_ | refine gG rfl ?_ | refine gH ?_ | refine gI ?_ | refine gJ ?_ | refine gK ?_ | refine gL ?_ | refine lwp_region hC ⟨[], [], []⟩ (told0 _ _) rfl ⟨⟩ ?_
                                  (refine lwp_region hC ⟨[(2, { b := some true })], [], []⟩ (told0 _ _) rfl ?_ ?_; rotate_left 1)
                                  · repeat first | refine lwp_seq fun K hK => ?_ | ((with_reducible refine gA ?_); apply_assumption -exfalso -symm) | refine gB ?_ | refine gC ?_ | refine gD ?_ | refine gE ?_ | refine gF rfl ?_ | refine gG rfl ?_ | refine gH ?_ | refine gI ?_ | refine gJ ?_ | refine gK ?_ | refine gL ?_ | refine lwp_region hC ⟨[], [], []⟩ (told0 _ _) rfl ⟨⟩ ?_
                                    (refine end_intro (by first | exact .inr rfl | exact .inl rfl) [] rfl ?_)
                                    simp [All, cd_p, cp_p, *] <;> omega
                                  · skip
                                    simp [AllL, All, cd_p, cp_p, cv_p, *] <;> omega
                                · skip
                                  simp [AllL, All, cd_p, cp_p, cv_p, InK, *] <;> omega
                              · have f3 : 0 < s.length ∧ 100000 < (s.getD (s.length - 1) thD).place := by rcases hfar with h | h; exact absurd h.2 f2; exact h
                                obtain ⟨f4, f5⟩ := f3
                                rw [List.getD_eq_getElem?_getD] at f2 f5
                                repeat first | refine lwp_seq fun K hK => ?_ | ((with_reducible refine gA ?_); apply_assumption -exfalso -symm) | refine gB ?_ | refine gC ?_ | refine gD ?_ | refine gE ?_ | refine gF rfl ?_ | refine gG rfl ?_ | refine gH ?_ | refine gI ?_ | refine gJ ?_ | refine gK ?_ | refine gL ?_ | refine lwp_region hC ⟨[], [], []⟩ (told0 _ _) rfl ⟨⟩ ?_
                                (refine lwp_region hC ⟨[(4, { b := some true }), (17, { b := some false }), (22, { b := some true, g := some true })], [], []⟩ (told0 _ _) rfl ?_ ?_; rotate_left 1)
                                · repeat first | refine lwp_seq fun K hK => ?_ | ((with_reducible refine gA ?_); apply_assumption -exfalso -symm) | refine gB ?_ | refine gC ?_ | refine gD ?_ | refine gE ?_ | refine gF rfl ?_ | refine gG rfl ?_ | refine gH ?_ | refine gI ?_ | refine gJ ?_ | refine gK ?_ | refine gL ?_ | refine lwp_region hC ⟨[], [], []⟩ (told0 _ _) rfl ⟨⟩ ?_
                                  (refine lwp_region hC ⟨[(2, { b := some true })], [], []⟩ (told0 _ _) rfl ?_ ?_; rotate_left 1)
                                  · repeat first | refine lwp_seq fun K hK => ?_ | ((with_reducible refine gA ?_); apply_assumption -exfalso -symm) | refine gB ?_ | refine gC ?_ | refine gD ?_ | refine gE ?_ | refine gF rfl ?_ | refine gG rfl ?_ | refine gH ?_ | refine gI ?_ | refine gJ ?_ | refine gK ?_ | refine gL ?_ | refine lwp_region hC ⟨[], [], []⟩ (told0 _ _) rfl ⟨⟩ ?_
                                    (refine end_intro (by first | exact .inr rfl | exact .inl rfl) [] rfl ?_)
                                    simp [All, cd_p, cp_p, *] <;> omega
                                  · skip
                                    simp [AllL, All, cd_p, cp_p, cv_p, *] <;> omega
                                · skip
                                  simp [AllL, All, cd_p, cp_p, cv_p, InK, *] <;> omega
                            · have f3 : 0 < s.length ∧ 100000 < (s.getD (s.length - 1) thD).place := by rcases hfar with h | h; exact absurd h.1 f1; exact h
                              obtain ⟨f4, f5⟩ := f3
                              rw [List.getD_eq_getElem?_getD] at f5
                              repeat first | refine lwp_seq fun K hK => ?_ | ((with_reducible refine gA ?_); apply_assumption -exfalso -symm) | refine gB ?_ | refine gC ?_ | refine gD ?_ | refine gE ?_ | refine gF rfl ?_ | refine gG rfl ?_ | refine gH ?_ | refine gI ?_ | refine gJ ?_ | refine gK ?_ | refine gL ?_ | refine lwp_region hC ⟨[], [], []⟩ (told0 _ _) rfl ⟨⟩ ?_
                              (refine lwp_region hC ⟨[(4, { b := some false }), (5, { g := some false }), (6, { g := some false }), (7, { g := some false }), (8, { g := some false }), (9, { g := some false }), (10, { g := some false }), (11, { g := some false }), (12, { g := some false }), (13, { g := some false }), (14, { g := some false }), (15, { g := some false }), (17, { b := some false }), (22, { b := some true, g := some true })], [], []⟩ (told0 _ _) rfl ?_ ?_; rotate_left 1)
                              · repeat first | refine lwp_seq fun K hK => ?_ | ((with_reducible refine gA ?_); apply_assumption -exfalso -symm) | refine gB ?_ | refine gC ?_ | refine gD ?_ | refine gE ?_ | refine gF rfl ?_ | refine gG rfl ?_ | refine gH ?_ | refine gI ?_ | refine gJ ?_ | refine gK ?_ | refine gL ?_ | refine lwp_region hC ⟨[], [], []⟩ (told0 _ _) rfl ⟨⟩ ?_
                                (refine lwp_region hC ⟨[(2, { b := some true })], [], []⟩ (told0 _ _) rfl ?_ ?_; rotate_left 1)
                                · repeat first | refine lwp_seq fun K hK => ?_ | ((with_reducible refine gA ?_); apply_assumption -exfalso -symm) | refine gB ?_ | refine gC ?_ | refine gD ?_ | refine gE ?_ | refine gF rfl ?_ | refine gG rfl ?_ | refine gH ?_ | refine gI ?_ | refine gJ ?_ | refine gK ?_ | refine gL ?_ | refine lwp_region hC ⟨[], [], []⟩ (told0 _ _) rfl ⟨⟩ ?_
                                  (refine end_intro (by first | exact .inr rfl | exact .inl rfl) [] rfl ?_)
                                  simp [All, cd_p, cp_p, *] <;> omega
                                · skip
                                  simp [AllL, All, cd_p, cp_p, cv_p, *] <;> omega
                              · skip
                                simp [AllL, All, cd_p, cp_p, cv_p, InK, *] <;> omega
                          · exact absurd hb (by decide)
                        · rw [show turnR m s 100000 100000 = ((turnL 100000 m, turnL 100000 s), 0) by unfold turnR; rw [if_neg (by rw [htE]; decide), if_neg hng]]
                          have hMi := mirror hrz hpz hsz (n := n) (by rw [withinS_zero] at hnz; omega) km ks hng
                          generalize turnL 100000 m = tm at hMi ⊢
                          generalize turnL 100000 s = ts at hMi ⊢
                          generalize turnPL m s l = tl at hMi
                          have HMI := Lib.hid hMi
                          have lm := hMi.lm
                          have ls := hMi.ls
                          have ll := hMi.ll
                          have hp1 := hMi.p1
                          have hk1 := hMi.k1
                          clear hMi
                          dsimp only
                          repeat first | refine lwp_seq fun K hK => ?_ | ((with_reducible refine gA ?_); apply_assumption -exfalso -symm) | refine gB ?_ | refine gC ?_ | refine gD ?_ | refine gE ?_ | refine gF rfl ?_ | refine gG rfl ?_ | refine gH ?_ | refine gI ?_ | refine gJ ?_ | refine gK ?_ | refine gL ?_ | refine lwp_region hC ⟨[], [], []⟩ (told0 _ _) rfl ⟨⟩ ?_
                          (refine lwp_cond hC rfl (by first | exact ⟨⟩ | exact sd) (fun hb => ?_) (fun hb => ?_) <;> (try simp only [decide_eq_true_eq, decide_eq_false_iff_not, Bool.not_eq_true', Bool.not_eq_false', ne_eq, Decidable.not_not] at hb))
                          · exact absurd hb (by decide)
                          · clear hb
                            repeat first | refine lwp_seq fun K hK => ?_ | ((with_reducible refine gA ?_); apply_assumption -exfalso -symm) | refine gB ?_ | refine gC ?_ | refine gD ?_ | refine gE ?_ | refine gF rfl ?_ | refine gG rfl ?_ | refine gH ?_ | refine gI ?_ | refine gJ ?_ | refine gK ?_ | refine gL ?_ | refine lwp_region hC ⟨[], [], []⟩ (told0 _ _) rfl ⟨⟩ ?_
                            (refine lwp_region hC ⟨[], [], [(1, Own_i m s [(0, some 2), (1, some 3)]), (3, Given_i l [(0, some 4)]), (4, PTP_i m s l [(0, some 13), (1, some 14), (2, some 15)])]⟩ (told1 _ (by rw [hP]; exact (calls_cons (Own_s _ _ _ hm' hs') (calls_cons (Given_s _ _ hl') (calls_cons (PTP_s _ _ _ _ hm' hs' hl') calls_nil))))) rfl ?_ ?_; rotate_left 1)
                            · rw [hp1, hk1]
                              have kmt : kindsOk tm := HMI.out.km
                              have kst : kindsOk ts := HMI.out.ks
                              have hlt : tm.length ≤ 1000000 := by omega
                              have hst : ts.length ≤ 1000000 := by omega
                              have hll' : tl.length ≤ 1000000 := by omega
                              have hCok : csOk ⟨7, 5, 3⟩ := ⟨by decide, by decide, by decide⟩
                              repeat first | refine lwp_seq fun K hK => ?_ | ((with_reducible refine gA ?_); apply_assumption -exfalso -symm) | refine gB ?_ | refine gC ?_ | refine gD ?_ | refine gE ?_ | refine gF rfl ?_ | refine gG rfl ?_ | refine gH ?_ | refine gI ?_ | refine gJ ?_ | refine gK ?_ | refine gL ?_ | refine lwp_region hC ⟨[], [], []⟩ (told0 _ _) rfl ⟨⟩ ?_
                              (refine lwp_region hC ⟨[(2, { b := some false }), (8, { b := some false, g := some true })], [], [(4, LRide_i tm ts [(0, some 9), (1, some 10)]), (5, RRide_i tm ts [(0, some 17), (1, some 18)]), (10, LRide_i tm ts [(0, some 9), (1, some 10)]), (12, LPairsC_i tl [(0, some 16)]), (13, RPairs_i tm ts tl [(0, some 19), (1, some 20), (2, some 21)])]⟩ (told1 _ (by rw [hP]; exact (calls_cons (LRide_s _ _ _ (by omega) (by omega)) (calls_cons (RRide_s _ _ _ hlt hst kmt kst) (calls_cons (LRide_s _ _ _ (by omega) (by omega)) (calls_cons (LPairsC_s _ _ (by omega)) (calls_cons (RPairs_s _ _ _ _ hlt hst hll') calls_nil))))))) rfl ?_ ?_; rotate_left 1)
                              · rw [HMI.out.rk]
                                repeat first | refine lwp_seq fun K hK => ?_ | ((with_reducible refine gA ?_); apply_assumption -exfalso -symm) | refine gB ?_ | refine gC ?_ | refine gD ?_ | refine gE ?_ | refine gF rfl ?_ | refine gG rfl ?_ | refine gH ?_ | refine gI ?_ | refine gJ ?_ | refine gK ?_ | refine gL ?_ | refine lwp_region hC ⟨[], [], []⟩ (told0 _ _) rfl ⟨⟩ ?_
                                (refine lwp_cond hC rfl (by first | exact ⟨⟩ | exact sd) (fun hb => ?_) (fun hb => ?_) <;> (try simp only [decide_eq_true_eq, decide_eq_false_iff_not, Bool.not_eq_true', Bool.not_eq_false', ne_eq, Decidable.not_not] at hb))
                                · exact absurd hb (by decide)
                                · clear hb
                                  repeat first | refine lwp_seq fun K hK => ?_ | ((with_reducible refine gA ?_); apply_assumption -exfalso -symm) | refine gB ?_ | refine gC ?_ | refine gD ?_ | refine gE ?_ | refine gF rfl ?_ | refine gG rfl ?_ | refine gH ?_ | refine gI ?_ | refine gJ ?_ | refine gK ?_ | refine gL ?_ | refine lwp_region hC ⟨[], [], []⟩ (told0 _ _) rfl ⟨⟩ ?_
                                  (refine lwp_region hC ⟨[], [], [(1, LRide_i tm ts [(0, some 9), (1, some 10)]), (2, Own_i tm ts [(0, some 22), (1, some 23)]), (3, PTurned_i tm ts 100000 100000 [(0, some 24), (1, some 25)])]⟩ (told1 _ (by rw [hP]; exact (calls_cons (LRide_s _ _ _ (by omega) (by omega)) (calls_cons (Own_s _ _ _ (by omega) (by omega)) (calls_cons (PTurned_s _ _ _ _ _ hlt hst) calls_nil))))) rfl ?_ ?_; rotate_left 1)
                                  · rw [HMI.out.bk]
                                    dsimp only
                                    repeat first | refine lwp_seq fun K hK => ?_ | ((with_reducible refine gA ?_); apply_assumption -exfalso -symm) | refine gB ?_ | refine gC ?_ | refine gD ?_ | refine gE ?_ | refine gF rfl ?_ | refine gG rfl ?_ | refine gH ?_ | refine gI ?_ | refine gJ ?_ | refine gK ?_ | refine gL ?_ | refine lwp_region hC ⟨[], [], []⟩ (told0 _ _) rfl ⟨⟩ ?_
                                    (refine lwp_region hC ⟨[], [], [(1, LRide_i tm ts [(0, some 9), (1, some 10)]), (2, Own_i tm ts [(0, some 30), (1, some 31)]), (4, LPairsC_i tl [(0, some 16)]), (5, Given_i tl [(0, some 34)]), (6, PTP_i tm ts tl [(0, some 32), (1, some 33), (2, some 35)])]⟩ (told1 _ (by rw [hP]; exact (calls_cons (LRide_s _ _ _ (by omega) (by omega)) (calls_cons (Own_s _ _ _ (by omega) (by omega)) (calls_cons (LPairsC_s _ _ (by omega)) (calls_cons (Given_s _ _ (by omega)) (calls_cons (PTP_s _ _ _ _ hlt hst hll') calls_nil))))))) rfl ?_ ?_; rotate_left 1)
                                    · rw [HMI.out.p2, HMI.out.k2]
                                      repeat first | refine lwp_seq fun K hK => ?_ | ((with_reducible refine gA ?_); apply_assumption -exfalso -symm) | refine gB ?_ | refine gC ?_ | refine gD ?_ | refine gE ?_ | refine gF rfl ?_ | refine gG rfl ?_ | refine gH ?_ | refine gI ?_ | refine gJ ?_ | refine gK ?_ | refine gL ?_ | refine lwp_region hC ⟨[], [], []⟩ (told0 _ _) rfl ⟨⟩ ?_
                                      obtain ⟨o1, o2, o3⟩ := HMI.out.co ⟨7, 5, 3⟩ hCok
                                      obtain ⟨q1, q2, q3⟩ := HMI.out.al ⟨7, 5, 3⟩ hCok
                                      (refine lwp_drawn hC (by rw [hP]; exact mixed) ⟨[], [], [(1, Own_i m s [(0, some 2), (1, some 3)]), (4, Given_i l [(0, some 4)]), (5, Cost_i m s ⟨7, 5, 3⟩ l [(0, some 39), (1, some 40), (2, some 41)])]⟩ (told1 _ (by rw [hP]; exact (calls_cons (Own_s _ _ _ hm' hs') (calls_cons (Given_s _ _ hl') (calls_cons (Cost_s _ _ _ _ _ hm' hs' hl') calls_nil))))) [0, 1, 0, 0, 11, 31, 63, 127, 127, 255, 1023] 10 rfl ?_ ?_; rotate_left 1)
                                      · rw [o1]
                                        repeat first | refine lwp_seq fun K hK => ?_ | ((with_reducible refine gA ?_); apply_assumption -exfalso -symm) | refine gB ?_ | refine gC ?_ | refine gD ?_ | refine gE ?_ | refine gF rfl ?_ | refine gG rfl ?_ | refine gH ?_ | refine gI ?_ | refine gJ ?_ | refine gK ?_ | refine gL ?_ | refine lwp_region hC ⟨[], [], []⟩ (told0 _ _) rfl ⟨⟩ ?_
                                        (refine lwp_drawn hC (by rw [hP]; exact mixed) ⟨[], [], [(1, LRide_i tm ts [(0, some 9), (1, some 10)]), (2, Own_i tm ts [(0, some 42), (1, some 43)]), (5, LPairsC_i tl [(0, some 16)]), (6, Given_i tl [(0, some 46)]), (7, Cost_i tm ts ⟨7, 5, 3⟩ tl [(0, some 44), (1, some 45), (2, some 47)])]⟩ (told1 _ (by rw [hP]; exact (calls_cons (LRide_s _ _ _ (by omega) (by omega)) (calls_cons (Own_s _ _ _ (by omega) (by omega)) (calls_cons (LPairsC_s _ _ (by omega)) (calls_cons (Given_s _ _ (by omega)) (calls_cons (Cost_s _ _ _ _ _ hlt hst hll') calls_nil))))))) [0, 1, 3, 0, 0, 23, 55, 127, 255, 511, 511, 1023, 4095] 12 rfl ?_ ?_; rotate_left 1)
                                        · rw [o2, o3]
                                          repeat first | refine lwp_seq fun K hK => ?_ | ((with_reducible refine gA ?_); apply_assumption -exfalso -symm) | refine gB ?_ | refine gC ?_ | refine gD ?_ | refine gE ?_ | refine gF rfl ?_ | refine gG rfl ?_ | refine gH ?_ | refine gI ?_ | refine gJ ?_ | refine gK ?_ | refine gL ?_ | refine lwp_region hC ⟨[], [], []⟩ (told0 _ _) rfl ⟨⟩ ?_
                                          (refine lwp_drawn hC (by rw [hP]; exact mixed) ⟨[], [], [(1, Own_i m s [(0, some 2), (1, some 3)]), (3, Aligned_i m s ⟨7, 5, 3⟩ [(0, some 48), (1, some 49)])]⟩ (told1 _ (by rw [hP]; exact (calls_cons (Own_s _ _ _ hm' hs') (calls_cons (Aligned_s _ _ _ _ hm' hs') calls_nil)))) [0, 1, 0, 7, 15, 31, 31, 31, 63, 383, 1023] 10 rfl ?_ ?_; rotate_left 1)
                                          · rw [q1]
                                            repeat first | refine lwp_seq fun K hK => ?_ | ((with_reducible refine gA ?_); apply_assumption -exfalso -symm) | refine gB ?_ | refine gC ?_ | refine gD ?_ | refine gE ?_ | refine gF rfl ?_ | refine gG rfl ?_ | refine gH ?_ | refine gI ?_ | refine gJ ?_ | refine gK ?_ | refine gL ?_ | refine lwp_region hC ⟨[], [], []⟩ (told0 _ _) rfl ⟨⟩ ?_
                                            (refine lwp_drawn hC (by rw [hP]; exact mixed) ⟨[], [], [(1, LRide_i tm ts [(0, some 9), (1, some 10)]), (2, Own_i tm ts [(0, some 51), (1, some 52)]), (4, Aligned_i tm ts ⟨7, 5, 3⟩ [(0, some 53), (1, some 54)])]⟩ (told1 _ (by rw [hP]; exact (calls_cons (LRide_s _ _ _ (by omega) (by omega)) (calls_cons (Own_s _ _ _ (by omega) (by omega)) (calls_cons (Aligned_s _ _ _ _ hlt hst) calls_nil))))) [0, 1, 3, 0, 15, 31, 63, 63, 63, 127, 767, 2047] 11 rfl ?_ ?_; rotate_left 1)
                                            · rw [q2, q3]
                                              repeat first | refine lwp_seq fun K hK => ?_ | ((with_reducible refine gA ?_); apply_assumption -exfalso -symm) | refine gB ?_ | refine gC ?_ | refine gD ?_ | refine gE ?_ | refine gF rfl ?_ | refine gG rfl ?_ | refine gH ?_ | refine gI ?_ | refine gJ ?_ | refine gK ?_ | refine gL ?_ | refine lwp_region hC ⟨[], [], []⟩ (told0 _ _) rfl ⟨⟩ ?_
                                              (refine lwp_drawn2 hC (by rw [hP]; exact mixed) ⟨[(2, { b := some false }), (6, { b := some false, g := some true }), (10, { b := some false, g := some true }), (14, { b := some false, g := some true }), (18, { b := some false, g := some true }), (22, { b := some false, g := some true }), (29, { b := some false, g := some true }), (36, { b := some false, g := some true }), (41, { b := some false, g := some true })], [], [(24, LRide_i m s [(0, some 26), (1, some 27)]), (26, SameR_i m s [(0, some 56), (1, some 57), (2, some 2), (3, some 3)]), (31, LPairsC_i l [(0, some 36)]), (33, SameP_i l [(0, some 58), (1, some 4)])]⟩ (told1 _ (by rw [hP]; exact (calls_cons (LRide_s _ _ _ hm' hs') (calls_cons (SameR_s _ _ _ hm' hs') (calls_cons (LPairsC_s _ _ hl') (calls_cons (SameP_s _ _ hl') calls_nil)))))) [0, 1, 3, 7, 15, 31, 63, 127, 255, 511, 1023, 2047, 4095, 8191, 16383, 32767, 65535, 131071, 262143, 524287, 1048575, 2097151, 4194303, 8388607, 16777215, 8388607, 67108863, 134217727, 268435455, 536870911, 1073741823, 2147483647, 1073741823, 8589934591, 17179869183, 34359738367, 68719476735, 137438953471, 137438953471, 549755813887, 1099511627775, 2199023255551, 4398046511103, 4398046511103, 17592186044415, 35184372088831] 46 0 rfl ?_ ?_; rotate_left 1)
                                              · repeat first | refine lwp_seq fun K hK => ?_ | ((with_reducible refine gA ?_); apply_assumption -exfalso -symm) | refine gB ?_ | refine gC ?_ | refine gD ?_ | refine gE ?_ | refine gF rfl ?_ | refine gG rfl ?_ | refine gH ?_ | refine gI ?_ | refine gJ ?_ | refine gK ?_ | refine gL ?_ | refine lwp_region hC ⟨[], [], []⟩ (told0 _ _) rfl ⟨⟩ ?_
                                                (refine lwp_cond hC rfl (by first | exact ⟨⟩ | exact sd) (fun hb => ?_) (fun hb => ?_) <;> (try simp only [decide_eq_true_eq, decide_eq_false_iff_not, Bool.not_eq_true', Bool.not_eq_false', ne_eq, Decidable.not_not] at hb))
                                                · exact absurd hb (by decide)
                                                · clear hb
                                                  repeat first | refine lwp_seq fun K hK => ?_ | ((with_reducible refine gA ?_); apply_assumption -exfalso -symm) | refine gB ?_ | refine gC ?_ | refine gD ?_ | refine gE ?_ | refine gF rfl ?_ | refine gG rfl ?_ | refine gH ?_ | refine gI ?_ | refine gJ ?_ | refine gK ?_ | refine gL ?_ | refine lwp_region hC ⟨[], [], []⟩ (told0 _ _) rfl ⟨⟩ ?_
                                                  (refine lwp_drawn hC (by rw [hP]; exact mixed) ⟨[], [], [(1, Own_i m s [(0, some 2), (1, some 3)]), (3, Given_i l [(0, some 4)]), (6, Confs_i m s r b l [(0, some 59), (1, some 60), (2, some 61)])]⟩ (told1 _ (by rw [hP]; exact (calls_cons (Own_s _ _ _ hm' hs') (calls_cons (Given_s _ _ hl') (calls_cons (Confs_s _ _ _ _ _ _ hm' hs' hl') calls_nil))))) [0, 1, 0, 7, 0, 16, 63, 127, 255, 255, 511, 2047] 11 rfl ?_ ?_; rotate_left 1)
                                                  · rw [HMI.out.c1]
                                                    repeat first | refine lwp_seq fun K hK => ?_ | ((with_reducible refine gA ?_); apply_assumption -exfalso -symm) | refine gB ?_ | refine gC ?_ | refine gD ?_ | refine gE ?_ | refine gF rfl ?_ | refine gG rfl ?_ | refine gH ?_ | refine gI ?_ | refine gJ ?_ | refine gK ?_ | refine gL ?_ | refine lwp_region hC ⟨[], [], []⟩ (told0 _ _) rfl ⟨⟩ ?_
                                                    (refine lwp_drawn hC (by rw [hP]; exact mixed) ⟨[], [], [(1, LRide_i tm ts [(0, some 9), (1, some 10)]), (2, Own_i tm ts [(0, some 63), (1, some 64)]), (4, LPairsC_i tl [(0, some 16)]), (5, Given_i tl [(0, some 67)]), (8, Confs_i tm ts r b tl [(0, some 65), (1, some 66), (2, some 68)])]⟩ (told1 _ (by rw [hP]; exact (calls_cons (LRide_s _ _ _ (by omega) (by omega)) (calls_cons (Own_s _ _ _ (by omega) (by omega)) (calls_cons (LPairsC_s _ _ (by omega)) (calls_cons (Given_s _ _ (by omega)) (calls_cons (Confs_s _ _ _ _ _ _ hlt hst hll') calls_nil))))))) [0, 1, 3, 0, 15, 31, 0, 64, 255, 511, 1023, 1023, 2047, 8191] 13 rfl ?_ ?_; rotate_left 1)
                                                    · rw [HMI.out.c2]
                                                      have hcl := HMI.out.cl
                                                      repeat first | refine lwp_seq fun K hK => ?_ | ((with_reducible refine gA ?_); apply_assumption -exfalso -symm) | refine gB ?_ | refine gC ?_ | refine gD ?_ | refine gE ?_ | refine gF rfl ?_ | refine gG rfl ?_ | refine gH ?_ | refine gI ?_ | refine gJ ?_ | refine gK ?_ | refine gL ?_ | refine lwp_region hC ⟨[], [], []⟩ (told0 _ _) rfl ⟨⟩ ?_
                                                      (refine lwp_region hC ⟨[(2, { b := some false }), (6, { b := some false, g := some true })], [], []⟩ (told0 _ _) rfl ?_ ?_; rotate_left 1)
                                                      · repeat first | refine lwp_seq fun K hK => ?_ | ((with_reducible refine gA ?_); apply_assumption -exfalso -symm) | refine gB ?_ | refine gC ?_ | refine gD ?_ | refine gE ?_ | refine gF rfl ?_ | refine gG rfl ?_ | refine gH ?_ | refine gI ?_ | refine gJ ?_ | refine gK ?_ | refine gL ?_ | refine lwp_region hC ⟨[], [], []⟩ (told0 _ _) rfl ⟨⟩ ?_
                                                        (refine lwp_cond hC rfl (by first | exact ⟨⟩ | exact sd) (fun hb => ?_) (fun hb => ?_) <;> (try simp only [decide_eq_true_eq, decide_eq_false_iff_not, Bool.not_eq_true', Bool.not_eq_false', ne_eq, Decidable.not_not] at hb))
                                                        · exact absurd hb (by simp [hcl])
                                                        · clear hb
                                                          repeat first | refine lwp_seq fun K hK => ?_ | ((with_reducible refine gA ?_); apply_assumption -exfalso -symm) | refine gB ?_ | refine gC ?_ | refine gD ?_ | refine gE ?_ | refine gF rfl ?_ | refine gG rfl ?_ | refine gH ?_ | refine gI ?_ | refine gJ ?_ | refine gK ?_ | refine gL ?_ | refine lwp_region hC ⟨[], [], []⟩ (told0 _ _) rfl ⟨⟩ ?_
                                                          (refine lwp_drawn2 hC (by rw [hP]; exact mixed) ⟨[], [], [(1, Own_i m s [(0, some 2), (1, some 3)]), (3, Given_i l [(0, some 4)]), (8, Within_i m s r b n l [(0, some 70), (1, some 71), (2, some 72)])]⟩ (told1 _ (by rw [hP]; exact (calls_cons (Own_s _ _ _ hm' hs') (calls_cons (Given_s _ _ hl') (calls_cons (Within_s _ _ _ _ _ _ _ hm' hs' hl') calls_nil))))) [0, 1, 0, 7, 0, 16, 0, 64, 255, 511, 1023, 1023, 0, 6143, 16383] 13 2048 rfl ?_ ?_; rotate_left 1)
                                                          · repeat first | refine lwp_seq fun K hK => ?_ | ((with_reducible refine gA ?_); apply_assumption -exfalso -symm) | refine gB ?_ | refine gC ?_ | refine gD ?_ | refine gE ?_ | refine gF rfl ?_ | refine gG rfl ?_ | refine gH ?_ | refine gI ?_ | refine gJ ?_ | refine gK ?_ | refine gL ?_ | refine lwp_region hC ⟨[], [], []⟩ (told0 _ _) rfl ⟨⟩ ?_
                                                            (refine lwp_drawn2 hC (by rw [hP]; exact mixed) ⟨[], [], [(1, LRide_i tm ts [(0, some 9), (1, some 10)]), (2, Own_i tm ts [(0, some 75), (1, some 76)]), (4, LPairsC_i tl [(0, some 16)]), (5, Given_i tl [(0, some 79)]), (11, Within_i tm ts r b (100000 - n) tl [(0, some 77), (1, some 78), (2, some 80)])]⟩ (told1 _ (by rw [hP]; exact (calls_cons (LRide_s _ _ _ (by omega) (by omega)) (calls_cons (Own_s _ _ _ (by omega) (by omega)) (calls_cons (LPairsC_s _ _ (by omega)) (calls_cons (Given_s _ _ (by omega)) (calls_cons (Within_s _ _ _ _ _ _ _ hlt hst hll') calls_nil))))))) [0, 1, 3, 0, 15, 31, 0, 64, 0, 256, 768, 2047, 4095, 8191, 8191, 0, 49151, 131071] 16 16384 rfl ?_ ?_; rotate_left 1)
                                                            · rw [HMI.out.w2]
                                                              repeat first | refine lwp_seq fun K hK => ?_ | ((with_reducible refine gA ?_); apply_assumption -exfalso -symm) | refine gB ?_ | refine gC ?_ | refine gD ?_ | refine gE ?_ | refine gF rfl ?_ | refine gG rfl ?_ | refine gH ?_ | refine gI ?_ | refine gJ ?_ | refine gK ?_ | refine gL ?_ | refine lwp_region hC ⟨[], [], []⟩ (told0 _ _) rfl ⟨⟩ ?_
                                                              (refine lwp_cond hC rfl (by first | exact ⟨⟩ | exact sd) (fun hb => ?_) (fun hb => ?_) <;> (try simp only [decide_eq_true_eq, decide_eq_false_iff_not, Bool.not_eq_true', Bool.not_eq_false', ne_eq, Decidable.not_not] at hb))
                                                              · exact absurd hb (by simp)
                                                              · clear hb
                                                                repeat first | refine lwp_seq fun K hK => ?_ | ((with_reducible refine gA ?_); apply_assumption -exfalso -symm) | refine gB ?_ | refine gC ?_ | refine gD ?_ | refine gE ?_ | refine gF rfl ?_ | refine gG rfl ?_ | refine gH ?_ | refine gI ?_ | refine gJ ?_ | refine gK ?_ | refine gL ?_ | refine lwp_region hC ⟨[], [], []⟩ (told0 _ _) rfl ⟨⟩ ?_
                                                                by_cases hw0 : (withR m s r b n l).2 = 0
                                                                · have ew := HMI.out.w1 hw0
                                                                  have hbd := HMI.out.bd
                                                                  rw [hw0, ew]
                                                                  dsimp only
                                                                  repeat first | refine lwp_seq fun K hK => ?_ | ((with_reducible refine gA ?_); apply_assumption -exfalso -symm) | refine gB ?_ | refine gC ?_ | refine gD ?_ | refine gE ?_ | refine gF rfl ?_ | refine gG rfl ?_ | refine gH ?_ | refine gI ?_ | refine gJ ?_ | refine gK ?_ | refine gL ?_ | refine lwp_region hC ⟨[], [], []⟩ (told0 _ _) rfl ⟨⟩ ?_
                                                                  (refine lwp_region hC ⟨[(2, { b := some false })], [(11, custIv)], []⟩ ⟨(fun p hp => by rcases List.mem_cons.1 hp with rfl | hp; rw [hP]; exact custIv_ok; cases hp), (fun _ h => (by cases h))⟩ rfl ?_ ?_; rotate_left 1)
                                                                  · repeat first | refine lwp_seq fun K hK => ?_ | ((with_reducible refine gA ?_); apply_assumption -exfalso -symm) | refine gB ?_ | refine gC ?_ | refine gD ?_ | refine gE ?_ | refine gF rfl ?_ | refine gG rfl ?_ | refine gH ?_ | refine gI ?_ | refine gJ ?_ | refine gK ?_ | refine gL ?_ | refine lwp_region hC ⟨[], [], []⟩ (told0 _ _) rfl ⟨⟩ ?_
                                                                    (refine end_intro (by first | exact .inr rfl | exact .inl rfl) [] rfl ?_)
                                                                    simp [All, cd_p, cp_p]
                                                                  · exact sd
                                                                · (refine lwp_region hC ⟨[(2, { b := some true }), (3, { g := some false }), (4, { g := some false }), (5, { g := some false }), (6, { g := some false }), (7, { g := some false }), (8, { g := some false }), (9, { g := some false }), (10, { g := some false }), (11, { g := some false })], [], []⟩ (told0 _ _) rfl ?_ ?_; rotate_left 1)
                                                                  · repeat first | refine lwp_seq fun K hK => ?_ | ((with_reducible refine gA ?_); apply_assumption -exfalso -symm) | refine gB ?_ | refine gC ?_ | refine gD ?_ | refine gE ?_ | refine gF rfl ?_ | refine gG rfl ?_ | refine gH ?_ | refine gI ?_ | refine gJ ?_ | refine gK ?_ | refine gL ?_ | refine lwp_region hC ⟨[], [], []⟩ (told0 _ _) rfl ⟨⟩ ?_
                                                                    (refine end_intro (by first | exact .inr rfl | exact .inl rfl) [] rfl ?_)
                                                                    simp [All, cd_p, cp_p, hw0]
                                                                  · simp [AllL, All, cd_p, cp_p, cv_p, hw0]
                                                            · exact sd
                                                          · exact sd
                                                      · exact sd
                                                    · exact sd
                                                  · exact sd
                                              · exact sd
                                            · exact sd
                                          · exact sd
                                        · exact sd
                                      · exact sd
                                    · exact sd
                                  · exact sd
                              · have e1 := HMI.out.rd
                                exact sd
                            · exact sd
                      · exact sd
                  · simp [AllL, All, cd_p, cp_p, cv_p, *] <;> first | omega | (intro h9; simp [h9] at *)
                · skip
                  (refine lwp_region hC ⟨[(7, { b := some false }), (12, { b := some false }), (18, { b := some false }), (24, { b := some false }), (29, { b := some false }), (35, { b := some false }), (41, { b := some false })], [], [(0, Awake_i), (4, Short_i m s [(0, some 2), (1, some 3)]), (9, RRide_i m s [(0, some 2), (1, some 3)]), (26, ShortP_i l [(0, some 4)]), (32, RPairs_i m s l [(0, some 2), (1, some 3), (2, some 4)]), (38, RSlip_i r b), (44, CheckRange_i n 0 100000)]⟩ (told1 _ (by rw [hP]; exact (calls_cons (Awake_s) (calls_cons (Short_s _ _ _ hmm hss) (calls_cons (RRide_s _ _ _ hm' hs' km ks) (calls_cons (ShortP_s _ _ hll) (calls_cons (RPairs_s _ _ _ _ hm' hs' hl') (calls_cons (RSlip_s _ _) (calls_cons (CheckRange_s _ _ _) calls_nil))))))))) rfl ?_ ?_; rotate_left 1)
                  · repeat first | refine lwp_seq fun K hK => ?_ | ((with_reducible refine gA ?_); apply_assumption -exfalso -symm) | refine gB ?_ | refine gC ?_ | refine gD ?_ | refine gE ?_ | refine gF rfl ?_ | refine gG rfl ?_ | refine gH ?_ | refine gI ?_ | refine gJ ?_ | refine gK ?_ | refine gL ?_ | refine lwp_region hC ⟨[], [], []⟩ (told0 _ _) rfl ⟨⟩ ?_
                    (refine lwp_cond hC rfl (by first | exact ⟨⟩ | exact sd) (fun hb => ?_) (fun hb => ?_) <;> (try simp only [decide_eq_true_eq, decide_eq_false_iff_not, Bool.not_eq_true', Bool.not_eq_false', ne_eq, Decidable.not_not] at hb))
                    · clear hb
                      repeat first | refine lwp_seq fun K hK => ?_ | ((with_reducible refine gA ?_); apply_assumption -exfalso -symm) | refine gB ?_ | refine gC ?_ | refine gD ?_ | refine gE ?_ | refine gF rfl ?_ | refine gG rfl ?_ | refine gH ?_ | refine gI ?_ | refine gJ ?_ | refine gK ?_ | refine gL ?_ | refine lwp_region hC ⟨[], [], []⟩ (told0 _ _) rfl ⟨⟩ ?_
                      (refine lwp_region hC ⟨[], [], [(0, Awake_i)]⟩ (told1 _ (by rw [hP]; exact (calls_cons (Awake_s) calls_nil))) rfl ?_ ?_; rotate_left 1)
                      · repeat first | refine lwp_seq fun K hK => ?_ | ((with_reducible refine gA ?_); apply_assumption -exfalso -symm) | refine gB ?_ | refine gC ?_ | refine gD ?_ | refine gE ?_ | refine gF rfl ?_ | refine gG rfl ?_ | refine gH ?_ | refine gI ?_ | refine gJ ?_ | refine gK ?_ | refine gL ?_ | refine lwp_region hC ⟨[], [], []⟩ (told0 _ _) rfl ⟨⟩ ?_
                        (refine end_intro (by first | exact .inr rfl | exact .inl rfl) [] rfl ?_)
                        exact ⟨rfl, trivial⟩
                      · exact sd
                    · exact absurd hb (by simp [hnz])
                  · simp [AllL, All, cd_p, cp_p, cv_p, *] <;> first | omega | (intro h9; simp [h9] at *)
              · skip
                (refine lwp_region hC ⟨[(7, { b := some false }), (12, { b := some false }), (18, { b := some false }), (24, { b := some false }), (29, { b := some false }), (35, { b := some false }), (41, { b := some true }), (42, { g := some false }), (43, { g := some false }), (44, { g := some false }), (45, { g := some false })], [], [(0, Awake_i), (4, Short_i m s [(0, some 2), (1, some 3)]), (9, RRide_i m s [(0, some 2), (1, some 3)]), (26, ShortP_i l [(0, some 4)]), (32, RPairs_i m s l [(0, some 2), (1, some 3), (2, some 4)]), (38, RSlip_i r b)]⟩ (told1 _ (by rw [hP]; exact (calls_cons (Awake_s) (calls_cons (Short_s _ _ _ hmm hss) (calls_cons (RRide_s _ _ _ hm' hs' km ks) (calls_cons (ShortP_s _ _ hll) (calls_cons (RPairs_s _ _ _ _ hm' hs' hl') (calls_cons (RSlip_s _ _) calls_nil)))))))) rfl ?_ ?_; rotate_left 1)
                · repeat first | refine lwp_seq fun K hK => ?_ | ((with_reducible refine gA ?_); apply_assumption -exfalso -symm) | refine gB ?_ | refine gC ?_ | refine gD ?_ | refine gE ?_ | refine gF rfl ?_ | refine gG rfl ?_ | refine gH ?_ | refine gI ?_ | refine gJ ?_ | refine gK ?_ | refine gL ?_ | refine lwp_region hC ⟨[], [], []⟩ (told0 _ _) rfl ⟨⟩ ?_
                  (refine lwp_cond hC rfl (by first | exact ⟨⟩ | exact sd) (fun hb => ?_) (fun hb => ?_) <;> (try simp only [decide_eq_true_eq, decide_eq_false_iff_not, Bool.not_eq_true', Bool.not_eq_false', ne_eq, Decidable.not_not] at hb))
                  · clear hb
                    repeat first | refine lwp_seq fun K hK => ?_ | ((with_reducible refine gA ?_); apply_assumption -exfalso -symm) | refine gB ?_ | refine gC ?_ | refine gD ?_ | refine gE ?_ | refine gF rfl ?_ | refine gG rfl ?_ | refine gH ?_ | refine gI ?_ | refine gJ ?_ | refine gK ?_ | refine gL ?_ | refine lwp_region hC ⟨[], [], []⟩ (told0 _ _) rfl ⟨⟩ ?_
                    (refine lwp_region hC ⟨[], [], [(0, Awake_i)]⟩ (told1 _ (by rw [hP]; exact (calls_cons (Awake_s) calls_nil))) rfl ?_ ?_; rotate_left 1)
                    · repeat first | refine lwp_seq fun K hK => ?_ | ((with_reducible refine gA ?_); apply_assumption -exfalso -symm) | refine gB ?_ | refine gC ?_ | refine gD ?_ | refine gE ?_ | refine gF rfl ?_ | refine gG rfl ?_ | refine gH ?_ | refine gI ?_ | refine gJ ?_ | refine gK ?_ | refine gL ?_ | refine lwp_region hC ⟨[], [], []⟩ (told0 _ _) rfl ⟨⟩ ?_
                      (refine end_intro (by first | exact .inr rfl | exact .inl rfl) [] rfl ?_)
                      exact ⟨rfl, trivial⟩
                    · exact sd
                  · exact absurd hb (by simp)
                · simp [AllL, All, cd_p, cp_p, cv_p, *] <;> first | omega | (intro h9; simp [h9] at *)
            · skip
              (refine lwp_region hC ⟨[(7, { b := some false }), (12, { b := some false }), (18, { b := some false }), (24, { b := some false }), (29, { b := some false }), (35, { b := some true }), (36, { g := some false }), (37, { g := some false }), (38, { g := some false }), (39, { g := some false }), (42, { g := some false }), (43, { g := some false }), (44, { g := some false }), (45, { g := some false })], [], [(0, Awake_i), (4, Short_i m s [(0, some 2), (1, some 3)]), (9, RRide_i m s [(0, some 2), (1, some 3)]), (26, ShortP_i l [(0, some 4)]), (32, RPairs_i m s l [(0, some 2), (1, some 3), (2, some 4)])]⟩ (told1 _ (by rw [hP]; exact (calls_cons (Awake_s) (calls_cons (Short_s _ _ _ hmm hss) (calls_cons (RRide_s _ _ _ hm' hs' km ks) (calls_cons (ShortP_s _ _ hll) (calls_cons (RPairs_s _ _ _ _ hm' hs' hl') calls_nil))))))) rfl ?_ ?_; rotate_left 1)
              · repeat first | refine lwp_seq fun K hK => ?_ | ((with_reducible refine gA ?_); apply_assumption -exfalso -symm) | refine gB ?_ | refine gC ?_ | refine gD ?_ | refine gE ?_ | refine gF rfl ?_ | refine gG rfl ?_ | refine gH ?_ | refine gI ?_ | refine gJ ?_ | refine gK ?_ | refine gL ?_ | refine lwp_region hC ⟨[], [], []⟩ (told0 _ _) rfl ⟨⟩ ?_
                (refine lwp_cond hC rfl (by first | exact ⟨⟩ | exact sd) (fun hb => ?_) (fun hb => ?_) <;> (try simp only [decide_eq_true_eq, decide_eq_false_iff_not, Bool.not_eq_true', Bool.not_eq_false', ne_eq, Decidable.not_not] at hb))
                · clear hb
                  repeat first | refine lwp_seq fun K hK => ?_ | ((with_reducible refine gA ?_); apply_assumption -exfalso -symm) | refine gB ?_ | refine gC ?_ | refine gD ?_ | refine gE ?_ | refine gF rfl ?_ | refine gG rfl ?_ | refine gH ?_ | refine gI ?_ | refine gJ ?_ | refine gK ?_ | refine gL ?_ | refine lwp_region hC ⟨[], [], []⟩ (told0 _ _) rfl ⟨⟩ ?_
                  (refine lwp_region hC ⟨[], [], [(0, Awake_i)]⟩ (told1 _ (by rw [hP]; exact (calls_cons (Awake_s) calls_nil))) rfl ?_ ?_; rotate_left 1)
                  · repeat first | refine lwp_seq fun K hK => ?_ | ((with_reducible refine gA ?_); apply_assumption -exfalso -symm) | refine gB ?_ | refine gC ?_ | refine gD ?_ | refine gE ?_ | refine gF rfl ?_ | refine gG rfl ?_ | refine gH ?_ | refine gI ?_ | refine gJ ?_ | refine gK ?_ | refine gL ?_ | refine lwp_region hC ⟨[], [], []⟩ (told0 _ _) rfl ⟨⟩ ?_
                    (refine end_intro (by first | exact .inr rfl | exact .inl rfl) [] rfl ?_)
                    exact ⟨rfl, trivial⟩
                  · exact sd
                · exact absurd hb (by simp)
              · simp [AllL, All, cd_p, cp_p, cv_p, *] <;> first | omega | (intro h9; simp [h9] at *)
          · skip
            (refine lwp_region hC ⟨[(7, { b := some false }), (12, { b := some false }), (18, { b := some false }), (24, { b := some false }), (29, { b := some true }), (30, { g := some false }), (31, { g := some false }), (32, { g := some false }), (33, { g := some false }), (36, { g := some false }), (37, { g := some false }), (38, { g := some false }), (39, { g := some false }), (42, { g := some false }), (43, { g := some false }), (44, { g := some false }), (45, { g := some false })], [], [(0, Awake_i), (4, Short_i m s [(0, some 2), (1, some 3)]), (9, RRide_i m s [(0, some 2), (1, some 3)]), (26, ShortP_i l [(0, some 4)])]⟩ (told1 _ (by rw [hP]; exact (calls_cons (Awake_s) (calls_cons (Short_s _ _ _ hmm hss) (calls_cons (RRide_s _ _ _ hm' hs' km ks) (calls_cons (ShortP_s _ _ hll) calls_nil)))))) rfl ?_ ?_; rotate_left 1)
            · repeat first | refine lwp_seq fun K hK => ?_ | ((with_reducible refine gA ?_); apply_assumption -exfalso -symm) | refine gB ?_ | refine gC ?_ | refine gD ?_ | refine gE ?_ | refine gF rfl ?_ | refine gG rfl ?_ | refine gH ?_ | refine gI ?_ | refine gJ ?_ | refine gK ?_ | refine gL ?_ | refine lwp_region hC ⟨[], [], []⟩ (told0 _ _) rfl ⟨⟩ ?_
              (refine lwp_cond hC rfl (by first | exact ⟨⟩ | exact sd) (fun hb => ?_) (fun hb => ?_) <;> (try simp only [decide_eq_true_eq, decide_eq_false_iff_not, Bool.not_eq_true', Bool.not_eq_false', ne_eq, Decidable.not_not] at hb))
              · clear hb
                repeat first | refine lwp_seq fun K hK => ?_ | ((with_reducible refine gA ?_); apply_assumption -exfalso -symm) | refine gB ?_ | refine gC ?_ | refine gD ?_ | refine gE ?_ | refine gF rfl ?_ | refine gG rfl ?_ | refine gH ?_ | refine gI ?_ | refine gJ ?_ | refine gK ?_ | refine gL ?_ | refine lwp_region hC ⟨[], [], []⟩ (told0 _ _) rfl ⟨⟩ ?_
                (refine lwp_region hC ⟨[], [], [(0, Awake_i)]⟩ (told1 _ (by rw [hP]; exact (calls_cons (Awake_s) calls_nil))) rfl ?_ ?_; rotate_left 1)
                · repeat first | refine lwp_seq fun K hK => ?_ | ((with_reducible refine gA ?_); apply_assumption -exfalso -symm) | refine gB ?_ | refine gC ?_ | refine gD ?_ | refine gE ?_ | refine gF rfl ?_ | refine gG rfl ?_ | refine gH ?_ | refine gI ?_ | refine gJ ?_ | refine gK ?_ | refine gL ?_ | refine lwp_region hC ⟨[], [], []⟩ (told0 _ _) rfl ⟨⟩ ?_
                  (refine end_intro (by first | exact .inr rfl | exact .inl rfl) [] rfl ?_)
                  exact ⟨rfl, trivial⟩
                · exact sd
              · exact absurd hb (by simp)
            · simp [AllL, All, cd_p, cp_p, cv_p, *] <;> first | omega | (intro h9; simp [h9] at *)
    · skip
      (refine lwp_region hC ⟨[(7, { b := some false }), (12, { b := some true }), (13, { g := some false }), (14, { g := some false }), (15, { g := some false }), (16, { g := some false }), (19, { g := some false }), (20, { g := some false }), (21, { g := some false }), (22, { g := some false }), (25, { g := some false }), (26, { g := some false }), (27, { g := some false }), (30, { g := some false }), (31, { g := some false }), (32, { g := some false }), (33, { g := some false }), (36, { g := some false }), (37, { g := some false }), (38, { g := some false }), (39, { g := some false }), (42, { g := some false }), (43, { g := some false }), (44, { g := some false }), (45, { g := some false })], [], [(0, Awake_i), (4, Short_i m s [(0, some 2), (1, some 3)]), (9, RRide_i m s [(0, some 2), (1, some 3)])]⟩ (told1 _ (by rw [hP]; exact (calls_cons (Awake_s) (calls_cons (Short_s _ _ _ hmm hss) (calls_cons (RRide_s _ _ _ hm' hs' km ks) calls_nil))))) rfl ?_ ?_; rotate_left 1)
      · repeat first | refine lwp_seq fun K hK => ?_ | ((with_reducible refine gA ?_); apply_assumption -exfalso -symm) | refine gB ?_ | refine gC ?_ | refine gD ?_ | refine gE ?_ | refine gF rfl ?_ | refine gG rfl ?_ | refine gH ?_ | refine gI ?_ | refine gJ ?_ | refine gK ?_ | refine gL ?_ | refine lwp_region hC ⟨[], [], []⟩ (told0 _ _) rfl ⟨⟩ ?_
        (refine lwp_cond hC rfl (by first | exact ⟨⟩ | exact sd) (fun hb => ?_) (fun hb => ?_) <;> (try simp only [decide_eq_true_eq, decide_eq_false_iff_not, Bool.not_eq_true', Bool.not_eq_false', ne_eq, Decidable.not_not] at hb))
        · clear hb
          repeat first | refine lwp_seq fun K hK => ?_ | ((with_reducible refine gA ?_); apply_assumption -exfalso -symm) | refine gB ?_ | refine gC ?_ | refine gD ?_ | refine gE ?_ | refine gF rfl ?_ | refine gG rfl ?_ | refine gH ?_ | refine gI ?_ | refine gJ ?_ | refine gK ?_ | refine gL ?_ | refine lwp_region hC ⟨[], [], []⟩ (told0 _ _) rfl ⟨⟩ ?_
          (refine lwp_region hC ⟨[], [], [(0, Awake_i)]⟩ (told1 _ (by rw [hP]; exact (calls_cons (Awake_s) calls_nil))) rfl ?_ ?_; rotate_left 1)
          · repeat first | refine lwp_seq fun K hK => ?_ | ((with_reducible refine gA ?_); apply_assumption -exfalso -symm) | refine gB ?_ | refine gC ?_ | refine gD ?_ | refine gE ?_ | refine gF rfl ?_ | refine gG rfl ?_ | refine gH ?_ | refine gI ?_ | refine gJ ?_ | refine gK ?_ | refine gL ?_ | refine lwp_region hC ⟨[], [], []⟩ (told0 _ _) rfl ⟨⟩ ?_
            (refine end_intro (by first | exact .inr rfl | exact .inl rfl) [] rfl ?_)
            exact ⟨rfl, trivial⟩
          · exact sd
        · exact absurd hb (by simp)
      · simp [AllL, All, cd_p, cp_p, cv_p, *] <;> first | omega | (intro h9; simp [h9] at *)
  · skip
    (refine lwp_region hC ⟨[(7, { b := some true }), (8, { g := some false }), (9, { g := some false }), (10, { g := some false }), (13, { g := some false }), (14, { g := some false }), (15, { g := some false }), (16, { g := some false }), (19, { g := some false }), (20, { g := some false }), (21, { g := some false }), (22, { g := some false }), (25, { g := some false }), (26, { g := some false }), (27, { g := some false }), (30, { g := some false }), (31, { g := some false }), (32, { g := some false }), (33, { g := some false }), (36, { g := some false }), (37, { g := some false }), (38, { g := some false }), (39, { g := some false }), (42, { g := some false }), (43, { g := some false }), (44, { g := some false }), (45, { g := some false })], [], [(0, Awake_i), (4, Short_i m s [(0, some 2), (1, some 3)])]⟩ (told1 _ (by rw [hP]; exact (calls_cons (Awake_s) (calls_cons (Short_s _ _ _ hmm hss) calls_nil)))) rfl ?_ ?_; rotate_left 1)
    · repeat first | refine lwp_seq fun K hK => ?_ | ((with_reducible refine gA ?_); apply_assumption -exfalso -symm) | refine gB ?_ | refine gC ?_ | refine gD ?_ | refine gE ?_ | refine gF rfl ?_ | refine gG rfl ?_ | refine gH ?_ | refine gI ?_ | refine gJ ?_ | refine gK ?_ | refine gL ?_ | refine lwp_region hC ⟨[], [], []⟩ (told0 _ _) rfl ⟨⟩ ?_
      (refine lwp_cond hC rfl (by first | exact ⟨⟩ | exact sd) (fun hb => ?_) (fun hb => ?_) <;> (try simp only [decide_eq_true_eq, decide_eq_false_iff_not, Bool.not_eq_true', Bool.not_eq_false', ne_eq, Decidable.not_not] at hb))
      · clear hb
        repeat first | refine lwp_seq fun K hK => ?_ | ((with_reducible refine gA ?_); apply_assumption -exfalso -symm) | refine gB ?_ | refine gC ?_ | refine gD ?_ | refine gE ?_ | refine gF rfl ?_ | refine gG rfl ?_ | refine gH ?_ | refine gI ?_ | refine gJ ?_ | refine gK ?_ | refine gL ?_ | refine lwp_region hC ⟨[], [], []⟩ (told0 _ _) rfl ⟨⟩ ?_
        (refine lwp_region hC ⟨[], [], [(0, Awake_i)]⟩ (told1 _ (by rw [hP]; exact (calls_cons (Awake_s) calls_nil))) rfl ?_ ?_; rotate_left 1)
        · repeat first | refine lwp_seq fun K hK => ?_ | ((with_reducible refine gA ?_); apply_assumption -exfalso -symm) | refine gB ?_ | refine gC ?_ | refine gD ?_ | refine gE ?_ | refine gF rfl ?_ | refine gG rfl ?_ | refine gH ?_ | refine gI ?_ | refine gJ ?_ | refine gK ?_ | refine gL ?_ | refine lwp_region hC ⟨[], [], []⟩ (told0 _ _) rfl ⟨⟩ ?_
          (refine end_intro (by first | exact .inr rfl | exact .inl rfl) [] rfl ?_)
          exact ⟨rfl, trivial⟩
        · exact sd
      · exact absurd hb (by simp)
    · simp [AllL, All, cd_p, cp_p, cv_p, *] <;> first | omega | (intro h9; simp [h9] at *)

end Go.Proofs.YtoopgdchiljmiaaGreatDoor
