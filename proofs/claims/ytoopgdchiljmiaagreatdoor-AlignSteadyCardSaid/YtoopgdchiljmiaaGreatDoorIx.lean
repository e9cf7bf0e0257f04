/- AlignSteady: the law gives true. -/
import Derived.Test.YtoopgdchiljmiaaGreatDoorIt
import Derived.Test.YtoopgdchiljmiaaGreatDoorIw
import Derived.Test.YtoopgdchiljmiaaGreatDoorEn
import Derived.Test.YtoopgdchiljmiaaGreatDoorHw
import Derived.Test.YtoopgdchiljmiaaGreatDoorDy
set_option linter.unusedVariables false
set_option linter.unusedSimpArgs false
namespace Go.Proofs.YtoopgdchiljmiaaGreatDoor
open Go.RowKit Go.Sym

/-- The guesses of a run's counts. -/
def glS (m s : List Th) (l : List (Int × Int)) (t : Rn) (i : Nat) : List Int := (List.range i).map fun (k : Nat) => gsS m s l (t.first + k)
theorem glS_len (m s : List Th) (l : List (Int × Int)) (t : Rn) (i : Nat) : (glS m s l t i).length = i := by simp [glS]
theorem glS_at (m s : List Th) (l : List (Int × Int)) (t : Rn) (i k : Nat) (h : k < i) : (glS m s l t i).getD k 0 = gsS m s l (t.first + k) := by
  rw [List.getD_eq_getElem?_getD, List.getElem?_eq_getElem (by rw [glS_len]; exact h)]
  simp [glS]
theorem glS_snoc (m s : List Th) (l : List (Int × Int)) (t : Rn) (i : Nat) : glS m s l t (i + 1) = glS m s l t i ++ [gsS m s l (t.first + i)] := by
  simp [glS, List.range_succ]
theorem cg_bad {m s : List Th} {l : List (Int × Int)} {t : Rn} (h : RgOk m s l t) (hc : ¬ cgE m s l t = 0) : (cgE m s l t = 3 ∧ (frS m s l t < 0 ∨ 100000000 ≤ toS m s l t)) ∨ (cgE m s l t = 5 ∧ 4096 ≤ toS m s l t - frS m s l t) := by
  have hf := h.fr
  unfold cgE at hc ⊢
  simp only [firstS] at hc ⊢
  unfold withinS whenS at *
  by_cases c1 : frS m s l t < 0 ∨ frS m s l t > 99999999
  · rw [if_pos c1, if_neg (by decide)]
    exact .inl ⟨rfl, by omega⟩
  · rw [if_neg c1, if_pos rfl] at hc ⊢
    by_cases c2 : toS m s l t < 0 ∨ toS m s l t > 99999999
    · rw [if_pos c2, if_neg (by decide)]
      exact .inl ⟨rfl, by omega⟩
    · rw [if_neg c2, if_pos rfl] at hc ⊢
      by_cases c3 : 4096 ≤ toS m s l t - frS m s l t
      · rw [decide_eq_true c3]
        exact .inr ⟨rfl, c3⟩
      · rw [decide_eq_false c3] at hc
        exact absurd rfl hc
def LawSt_i (m s : List Th) (l : List (Int × Int)) (t : Rn) : Inst := { f := 9, gl := lawG, hin := [(0, pwC), (1, fmC), (2, .ro m.length 2 (thC m)), (3, .ro s.length 2 (thC s)), (4, .ro l.length 2 (prC l)), (5, .ro t.smp.length 1 (flC t.smp)), (6, .ro t.holes.length 2 (spC t.holes))], args := [.agg [.sl 2 m.length, .sl 3 s.length], .sl 4 l.length, rnA 5 6 t], hout := [], ret := bl true, σ := [] }
set_option maxRecDepth 20000 in
set_option maxHeartbeats 16000000 in
theorem LawSt_s (m s : List Th) (l : List (Int × Int)) (t : Rn) (hmm : m.length ≤ 9223372036854775807) (hss : s.length ≤ 9223372036854775807) (hll : l.length ≤ 9223372036854775807) : (LawSt_i m s l t).ok Tryz.prog := by
  unfold LawSt_i Inst.ok; dsimp only; refine spec_of_body (tys := tys) 7 Tryz.func9 (by kernel_rfl) rfl tys_ok rfl (Nat.le_of_ble_eq_true rfl) (fun g i h => ?_) fun F hP hm hC hrd => ?_
  · simp only [List.mem_cons, List.not_mem_nil, or_false, Prod.mk.injEq] at h
    omega
  conv => whnf
  repeat first | refine lwp_seq fun K hK => ?_ | ((with_reducible refine gA ?_); apply_assumption -exfalso -symm) | refine gB ?_ | refine gC ?_ | refine gD ?_ | refine gE ?_ | refine gF rfl ?_ | refine gG rfl ?_ | refine gH ?_ | refine gI ?_ | refine gJ ?_ | refine gK ?_ | refine gL ?_ | refine lwp_region hC ⟨[], [], []⟩ (told0 _ _) rfl ⟨⟩ ?_
  by_cases hS : shortS m s = true
  · have hkinds : kindsOk m ∧ kindsOk s := by
      unfold shortS at hS
      simp only [Bool.and_eq_true] at hS
      exact ⟨kinds_of hS.1, kinds_of hS.2.1⟩
    obtain ⟨km, ks⟩ := hkinds
    have hlens : m.length ≤ 1000000 ∧ s.length ≤ 1000000 := by
      unfold shortS at hS
      simp only [Bool.and_eq_true] at hS
      have h3 := hS.2.2
      unfold lenS at h3
      by_cases q1 : (m.length : Int) ≤ 8 <;> by_cases q2 : (m.length : Int) = 65 <;> by_cases q3 : (s.length : Int) ≤ 8 <;> by_cases q4 : (s.length : Int) = 65 <;> simp [q1, q2, q3, q4] at h3 <;> omega
    obtain ⟨hm', hs'⟩ := hlens
    by_cases hrz : rideS m s = 0
    · by_cases c1 : (8 : Int) < m.length
      · skip
        (refine lwp_region hC ⟨[(7, { b := some false }), (12, { b := some false }), (18, { b := some true }), (19, { g := some false }), (20, { g := some false }), (21, { g := some false }), (22, { g := some false }), (25, { g := some false }), (26, { g := some false }), (27, { g := some false }), (30, { g := some false }), (31, { g := some false }), (32, { g := some false }), (33, { g := some false }), (36, { g := some false }), (37, { g := some false }), (38, { g := some false }), (41, { g := some false }), (42, { g := some false }), (43, { g := some false }), (46, { g := some false }), (47, { g := some false }), (48, { g := some false }), (51, { g := some false }), (52, { g := some false }), (53, { g := some false }), (54, { g := some false })], [], [(0, Awake_i), (4, Short_i m s [(0, some 2), (1, some 3)]), (9, RRide_i m s [(0, some 2), (1, some 3)])]⟩ (told1 _ (by rw [hP]; exact (calls_cons (Awake_s) (calls_cons (Short_s _ _ _ hmm hss) (calls_cons (RRide_s _ _ _ hm' hs' km ks) calls_nil))))) rfl ?_ ?_; rotate_left 1)
        · repeat first | refine lwp_seq fun K hK => ?_ | ((with_reducible refine gA ?_); apply_assumption -exfalso -symm) | refine gB ?_ | refine gC ?_ | refine gD ?_ | refine gE ?_ | refine gF rfl ?_ | refine gG rfl ?_ | refine gH ?_ | refine gI ?_ | refine gJ ?_ | refine gK ?_ | refine gL ?_ | refine lwp_region hC ⟨[], [], []⟩ (told0 _ _) rfl ⟨⟩ ?_
          (refine lwp_cond hC rfl (by first | exact ⟨⟩ | exact sd) (fun hb => ?_) (fun hb => ?_) <;> (try simp only [decide_eq_true_eq, decide_eq_false_iff_not, Bool.not_eq_true', Bool.not_eq_false', ne_eq, Decidable.not_not] at hb))
          · clear hb
            repeat first | refine lwp_seq fun K hK => ?_ | ((with_reducible refine gA ?_); apply_assumption -exfalso -symm) | refine gB ?_ | refine gC ?_ | refine gD ?_ | refine gE ?_ | refine gF rfl ?_ | refine gG rfl ?_ | refine gH ?_ | refine gI ?_ | refine gJ ?_ | refine gK ?_ | refine gL ?_ | refine lwp_region hC ⟨[], [], []⟩ (told0 _ _) rfl ⟨⟩ ?_
            (refine lwp_region hC ⟨[], [], [(0, Awake_i)]⟩ (told1 _ (by rw [hP]; exact (calls_cons (Awake_s) calls_nil))) rfl ?_ ?_; rotate_left 1)
            · repeat first | refine lwp_seq fun K hK => ?_ | ((with_reducible refine gA ?_); apply_assumption -exfalso -symm) | refine gB ?_ | refine gC ?_ | refine gD ?_ | refine gE ?_ | refine gF rfl ?_ | refine gG rfl ?_ | refine gH ?_ | refine gI ?_ | refine gJ ?_ | refine gK ?_ | refine gL ?_ | refine lwp_region hC ⟨[], [], []⟩ (told0 _ _) rfl ⟨⟩ ?_
              (refine end_intro (by first | exact .inr rfl | exact .inl rfl) [] rfl ?_)
              exact ⟨rfl, trivial⟩
            · exact sd
          · exact absurd hb (by simp)
        · simp [AllL, All, cd_p, cp_p, cv_p, *] <;> first | omega | (intro h9; simp [h9] at *)
      · by_cases c2 : (8 : Int) < s.length
        · skip
          (refine lwp_region hC ⟨[(7, { b := some false }), (12, { b := some false }), (18, { b := some false }), (24, { b := some true }), (25, { g := some false }), (26, { g := some false }), (27, { g := some false }), (30, { g := some false }), (31, { g := some false }), (32, { g := some false }), (33, { g := some false }), (36, { g := some false }), (37, { g := some false }), (38, { g := some false }), (41, { g := some false }), (42, { g := some false }), (43, { g := some false }), (46, { g := some false }), (47, { g := some false }), (48, { g := some false }), (51, { g := some false }), (52, { g := some false }), (53, { g := some false }), (54, { g := some false })], [], [(0, Awake_i), (4, Short_i m s [(0, some 2), (1, some 3)]), (9, RRide_i m s [(0, some 2), (1, some 3)])]⟩ (told1 _ (by rw [hP]; exact (calls_cons (Awake_s) (calls_cons (Short_s _ _ _ hmm hss) (calls_cons (RRide_s _ _ _ hm' hs' km ks) calls_nil))))) rfl ?_ ?_; rotate_left 1)
          · repeat first | refine lwp_seq fun K hK => ?_ | ((with_reducible refine gA ?_); apply_assumption -exfalso -symm) | refine gB ?_ | refine gC ?_ | refine gD ?_ | refine gE ?_ | refine gF rfl ?_ | refine gG rfl ?_ | refine gH ?_ | refine gI ?_ | refine gJ ?_ | refine gK ?_ | refine gL ?_ | refine lwp_region hC ⟨[], [], []⟩ (told0 _ _) rfl ⟨⟩ ?_
            (refine lwp_cond hC rfl (by first | exact ⟨⟩ | exact sd) (fun hb => ?_) (fun hb => ?_) <;> (try simp only [decide_eq_true_eq, decide_eq_false_iff_not, Bool.not_eq_true', Bool.not_eq_false', ne_eq, Decidable.not_not] at hb))
            · clear hb
              repeat first | refine lwp_seq fun K hK => ?_ | ((with_reducible refine gA ?_); apply_assumption -exfalso -symm) | refine gB ?_ | refine gC ?_ | refine gD ?_ | refine gE ?_ | refine gF rfl ?_ | refine gG rfl ?_ | refine gH ?_ | refine gI ?_ | refine gJ ?_ | refine gK ?_ | refine gL ?_ | refine lwp_region hC ⟨[], [], []⟩ (told0 _ _) rfl ⟨⟩ ?_
              (refine lwp_region hC ⟨[], [], [(0, Awake_i)]⟩ (told1 _ (by rw [hP]; exact (calls_cons (Awake_s) calls_nil))) rfl ?_ ?_; rotate_left 1)
              · repeat first | refine lwp_seq fun K hK => ?_ | ((with_reducible refine gA ?_); apply_assumption -exfalso -symm) | refine gB ?_ | refine gC ?_ | refine gD ?_ | refine gE ?_ | refine gF rfl ?_ | refine gG rfl ?_ | refine gH ?_ | refine gI ?_ | refine gJ ?_ | refine gK ?_ | refine gL ?_ | refine lwp_region hC ⟨[], [], []⟩ (told0 _ _) rfl ⟨⟩ ?_
                (refine end_intro (by first | exact .inr rfl | exact .inl rfl) [] rfl ?_)
                exact ⟨rfl, trivial⟩
              · exact sd
            · exact absurd hb (by simp)
          · simp [AllL, All, cd_p, cp_p, cv_p, *] <;> first | omega | (intro h9; simp [h9] at *)
        · by_cases hQ : shortPS l = true
          · have hl' : l.length ≤ 1000000 := by
              unfold shortPS at hQ
              by_cases q1 : (l.length : Int) ≤ 9 <;> by_cases q2 : (l.length : Int) = 65 <;> simp [q1, q2] at hQ <;> omega
            by_cases hpz : rpairsS m s l = 0
            · by_cases c3 : (l.length : Int) = 0
              · skip
                (refine lwp_region hC ⟨[(7, { b := some false }), (12, { b := some false }), (18, { b := some false }), (24, { b := some false }), (29, { b := some false }), (35, { b := some false }), (40, { b := some true }), (41, { g := some false }), (42, { g := some false }), (43, { g := some false }), (46, { g := some false }), (47, { g := some false }), (48, { g := some false }), (51, { g := some false }), (52, { g := some false }), (53, { g := some false }), (54, { g := some false })], [], [(0, Awake_i), (4, Short_i m s [(0, some 2), (1, some 3)]), (9, RRide_i m s [(0, some 2), (1, some 3)]), (26, ShortP_i l [(0, some 4)]), (32, RPairs_i m s l [(0, some 2), (1, some 3), (2, some 4)])]⟩ (told1 _ (by rw [hP]; exact (calls_cons (Awake_s) (calls_cons (Short_s _ _ _ hmm hss) (calls_cons (RRide_s _ _ _ hm' hs' km ks) (calls_cons (ShortP_s _ _ hll) (calls_cons (RPairs_s _ _ _ _ hm' hs' hl') calls_nil))))))) rfl ?_ ?_; rotate_left 1)
                · repeat first | refine lwp_seq fun K hK => ?_ | ((with_reducible refine gA ?_); apply_assumption -exfalso -symm) | refine gB ?_ | refine gC ?_ | refine gD ?_ | refine gE ?_ | refine gF rfl ?_ | refine gG rfl ?_ | refine gH ?_ | refine gI ?_ | refine gJ ?_ | refine gK ?_ | refine gL ?_ | refine lwp_region hC ⟨[], [], []⟩ (told0 _ _) rfl ⟨⟩ ?_
                  (refine lwp_cond hC rfl (by first | exact ⟨⟩ | exact sd) (fun hb => ?_) (fun hb => ?_) <;> (try simp only [decide_eq_true_eq, decide_eq_false_iff_not, Bool.not_eq_true', Bool.not_eq_false', ne_eq, Decidable.not_not] at hb))
                  · clear hb
                    repeat first | refine lwp_seq fun K hK => ?_ | ((with_reducible refine gA ?_); apply_assumption -exfalso -symm) | refine gB ?_ | refine gC ?_ | refine gD ?_ | refine gE ?_ | refine gF rfl ?_ | refine gG rfl ?_ | refine gH ?_ | refine gI ?_ | refine gJ ?_ | refine gK ?_ | refine gL ?_ | refine lwp_region hC ⟨[], [], []⟩ (told0 _ _) rfl ⟨⟩ ?_
                    (refine lwp_region hC ⟨[], [], [(0, Awake_i)]⟩ (told1 _ (by rw [hP]; exact (calls_cons (Awake_s) calls_nil))) rfl ?_ ?_; rotate_left 1)
                    · repeat first | refine lwp_seq fun K hK => ?_ | ((with_reducible refine gA ?_); apply_assumption -exfalso -symm) | refine gB ?_ | refine gC ?_ | refine gD ?_ | refine gE ?_ | refine gF rfl ?_ | refine gG rfl ?_ | refine gH ?_ | refine gI ?_ | refine gJ ?_ | refine gK ?_ | refine gL ?_ | refine lwp_region hC ⟨[], [], []⟩ (told0 _ _) rfl ⟨⟩ ?_
                      (refine end_intro (by first | exact .inr rfl | exact .inl rfl) [] rfl ?_)
                      exact ⟨rfl, trivial⟩
                    · exact sd
                  · exact absurd hb (by simp)
                · simp [AllL, All, cd_p, cp_p, cv_p, *] <;> first | omega | (intro h9; simp [h9] at *)
              · by_cases hT : shortR t = true
                · obtain ⟨nt, lt, ht⟩ := shortR_ok hT
                  by_cases z1 : runE t = 0
                  · by_cases c4 : (t.smp.length : Int) = 0
                    · (refine lwp_region hC ⟨[(7, { b := some false }), (12, { b := some false }), (18, { b := some false }), (24, { b := some false }), (29, { b := some false }), (35, { b := some false }), (40, { b := some false }), (45, { b := some false }), (50, { b := some false })], [], [(0, Awake_i), (4, Short_i m s [(0, some 2), (1, some 3)]), (9, RRide_i m s [(0, some 2), (1, some 3)]), (26, ShortP_i l [(0, some 4)]), (32, RPairs_i m s l [(0, some 2), (1, some 3), (2, some 4)]), (42, ShortR_i t [(0, some 5), (1, some 6)]), (47, RRun_i t [(0, some 5), (1, some 6)])]⟩ (told1 _ (by rw [hP]; exact (calls_cons (Awake_s) (calls_cons (Short_s _ _ _ hmm hss) (calls_cons (RRide_s _ _ _ hm' hs' km ks) (calls_cons (ShortP_s _ _ hll) (calls_cons (RPairs_s _ _ _ _ hm' hs' hl') (calls_cons (ShortR_s _ _) (calls_cons (RRun_s _ _ (by omega) (by omega) (by omega)) calls_nil))))))))) rfl ?_ ?_; rotate_left 1)
                      · repeat first | refine lwp_seq fun K hK => ?_ | ((with_reducible refine gA ?_); apply_assumption -exfalso -symm) | refine gB ?_ | refine gC ?_ | refine gD ?_ | refine gE ?_ | refine gF rfl ?_ | refine gG rfl ?_ | refine gH ?_ | refine gI ?_ | refine gJ ?_ | refine gK ?_ | refine gL ?_ | refine lwp_region hC ⟨[], [], []⟩ (told0 _ _) rfl ⟨⟩ ?_
                        (refine lwp_cond hC rfl (by first | exact ⟨⟩ | exact sd) (fun hb => ?_) (fun hb => ?_) <;> (try simp only [decide_eq_true_eq, decide_eq_false_iff_not, Bool.not_eq_true', Bool.not_eq_false', ne_eq, Decidable.not_not] at hb))
                        · clear hb
                          repeat first | refine lwp_seq fun K hK => ?_ | ((with_reducible refine gA ?_); apply_assumption -exfalso -symm) | refine gB ?_ | refine gC ?_ | refine gD ?_ | refine gE ?_ | refine gF rfl ?_ | refine gG rfl ?_ | refine gH ?_ | refine gI ?_ | refine gJ ?_ | refine gK ?_ | refine gL ?_ | refine lwp_region hC ⟨[], [], []⟩ (told0 _ _) rfl ⟨⟩ ?_
                          (refine lwp_region hC ⟨[], [], [(0, Awake_i)]⟩ (told1 _ (by rw [hP]; exact (calls_cons (Awake_s) calls_nil))) rfl ?_ ?_; rotate_left 1)
                          · repeat first | refine lwp_seq fun K hK => ?_ | ((with_reducible refine gA ?_); apply_assumption -exfalso -symm) | refine gB ?_ | refine gC ?_ | refine gD ?_ | refine gE ?_ | refine gF rfl ?_ | refine gG rfl ?_ | refine gH ?_ | refine gI ?_ | refine gJ ?_ | refine gK ?_ | refine gL ?_ | refine lwp_region hC ⟨[], [], []⟩ (told0 _ _) rfl ⟨⟩ ?_
                            (refine end_intro (by first | exact .inr rfl | exact .inl rfl) [] rfl ?_)
                            exact ⟨rfl, trivial⟩
                          · exact sd
                        · exact absurd hb (by simp [*] <;> first | omega | (intro h9; simp [h9] at *))
                      · simp [AllL, All, cd_p, cp_p, cv_p, *] <;> first | omega | (intro h9; simp [h9] at *)
                    · have hchk : checkPairsS m s l = 0 := by rw [← lcheck_eq]; unfold lcheckS; rw [if_pos hrz]; exact hpz
                      have hg := good_of hchk
                      obtain ⟨vt, vt2⟩ := vr_of z1 (by omega)
                      have hr : RgOk m s l t := ⟨hg, by omega, vt, by omega, vt2⟩
                      have hpg : pgE m s l t = 0 := by
                        unfold pgE
                        rw [firstS_cons, firstS_cons, firstS_cons, firstS_cons, whenS_zero (by decide), whenS_zero (by decide)]
                        exact ⟨hchk, z1, decide_eq_false c3, decide_eq_false c4, rfl⟩
                      have hname : nameOk t.name = true := by
                        have h := z1
                        rw [runE_eq] at h
                        split at h
                        · rename_i hx; exact absurd h hx
                        · rename_i a1
                          exact (headR_ok (Classical.byContradiction a1)).1
                      have hft := vt.f
                      have hnt := vt.n
                      have hlt := hg.hl
                      have hmt := hg.hm
                      have hst' := hg.hs
                      (refine lwp_region hC ⟨[(7, { b := some false }), (12, { b := some false }), (18, { b := some false }), (24, { b := some false }), (29, { b := some false }), (35, { b := some false }), (40, { b := some false }), (45, { b := some false }), (50, { b := some false })], [], [(0, Awake_i), (4, Short_i m s [(0, some 2), (1, some 3)]), (9, RRide_i m s [(0, some 2), (1, some 3)]), (26, ShortP_i l [(0, some 4)]), (32, RPairs_i m s l [(0, some 2), (1, some 3), (2, some 4)]), (42, ShortR_i t [(0, some 5), (1, some 6)]), (47, RRun_i t [(0, some 5), (1, some 6)])]⟩ (told1 _ (by rw [hP]; exact (calls_cons (Awake_s) (calls_cons (Short_s _ _ _ hmm hss) (calls_cons (RRide_s _ _ _ hm' hs' km ks) (calls_cons (ShortP_s _ _ hll) (calls_cons (RPairs_s _ _ _ _ hm' hs' hl') (calls_cons (ShortR_s _ _) (calls_cons (RRun_s _ _ (by omega) (by omega) (by omega)) calls_nil))))))))) rfl ?_ ?_; rotate_left 1)
                      · repeat first | refine lwp_seq fun K hK => ?_ | ((with_reducible refine gA ?_); apply_assumption -exfalso -symm) | refine gB ?_ | refine gC ?_ | refine gD ?_ | refine gE ?_ | refine gF rfl ?_ | refine gG rfl ?_ | refine gH ?_ | refine gI ?_ | refine gJ ?_ | refine gK ?_ | refine gL ?_ | refine lwp_region hC ⟨[], [], []⟩ (told0 _ _) rfl ⟨⟩ ?_
                        (refine lwp_cond hC rfl (by first | exact ⟨⟩ | exact sd) (fun hb => ?_) (fun hb => ?_) <;> (try simp only [decide_eq_true_eq, decide_eq_false_iff_not, Bool.not_eq_true', Bool.not_eq_false', ne_eq, Decidable.not_not] at hb))
                        · exact absurd hb (by simp [*] <;> first | omega | (intro h9; simp [h9] at *))
                        · clear hb
                          repeat first | refine lwp_seq fun K hK => ?_ | ((with_reducible refine gA ?_); apply_assumption -exfalso -symm) | refine gB ?_ | refine gC ?_ | refine gD ?_ | refine gE ?_ | refine gF rfl ?_ | refine gG rfl ?_ | refine gH ?_ | refine gI ?_ | refine gJ ?_ | refine gK ?_ | refine gL ?_ | refine lwp_region hC ⟨[], [], []⟩ (told0 _ _) rfl ⟨⟩ ?_ | refine lwp_region hC ⟨[], [], []⟩ (told0 _ _) rfl (by exact sd) ?_
                          refine lwp_loop (fun i : Nat => ⟨[(85, i64 i), (84, i64 l.length), (83, .sl 4 l.length), (1, .sl 4 l.length), (3, .ptr 7 0 0 0), (5, .ptr 8 0 0 0)], [(8, .blk 69 [.lit (.string t.name), i64 t.first, .sl 5 t.smp.length, .sl 6 t.holes.length]), (7, .blk 25 [.sl 2 m.length, .sl 3 s.length]), (0, pwC), (1, fmC), (2, .ro m.length 2 (thC m)), (3, .ro s.length 2 (thC s)), (4, .ro l.length 2 (prC l)), (5, .ro t.smp.length 1 (flC t.smp)), (6, .ro t.holes.length 2 (spC t.holes))], 9⟩) (fun i => i ≤ l.length) (fun i => l.length - i) 0 ⟨?_, sub_intro hm [(0, some 0), (1, some 1), (2, some 2), (3, some 3), (4, some 4), (5, some 5), (6, some 6), (7, some 7), (8, some 8)] rfl ?_⟩ ?_
                          · exact Nat.zero_le _
                          · exact sd
                          · rintro i hi
                            have ei : (i : Int).toNat = i := Int.toNat_natCast i
                            repeat first | refine lwp_seq fun K hK => ?_ | ((with_reducible refine gA ?_); apply_assumption -exfalso -symm) | refine gB ?_ | refine gC ?_ | refine gD ?_ | refine gE ?_ | refine gF rfl ?_ | refine gG rfl ?_ | refine gH ?_ | refine gI ?_ | refine gJ ?_ | refine gK ?_ | refine gL ?_ | refine lwp_region hC ⟨[], [], []⟩ (told0 _ _) rfl ⟨⟩ ?_
                            (refine lwp_cond hC rfl (by first | exact ⟨⟩ | exact sd) (fun hb => ?_) (fun hb => ?_) <;> (try simp only [decide_eq_true_eq, decide_eq_false_iff_not, Bool.not_eq_true', Bool.not_eq_false', ne_eq, Decidable.not_not] at hb))
                            · have hil : i < l.length := by omega
                              clear hb
                              obtain ⟨⟨i1, i2⟩, i3, i4⟩ := hg.p i hil
                              have c1 := cnt_bound hg.ps (prAt l i)
                              have c2 := plc_bound hg.pm (prAt l i)
                              have hge : guessE m s (cnt s (prAt l i)) l = 0 := by
                                unfold guessE
                                rw [firstS_cons, firstS_cons, firstS_cons, withinS_zero, whenS_zero (by decide)]
                                exact ⟨hchk, by omega, decide_eq_false (by omega), rfl⟩
                              have hgr : guessR m s (cnt s (prAt l i)) l = plc m (prAt l i) := by
                                unfold guessR
                                rw [if_neg (by rw [hge]; decide)]
                                exact guess_cnt hg hil
                              repeat first | refine lwp_seq fun K hK => ?_ | ((with_reducible refine gA ?_); apply_assumption -exfalso -symm) | refine gB ?_ | refine gC ?_ | refine gD ?_ | refine gE ?_ | refine gF rfl ?_ | refine gG rfl ?_ | refine gH ?_ | refine gI ?_ | refine gJ ?_ | refine gK ?_ | refine gL ?_ | refine lwp_region hC ⟨[], [], []⟩ (told0 _ _) rfl ⟨⟩ ?_
                              (refine lwp_region hC ⟨[], [], []⟩ (told0 _ _) rfl ?_ ?_; rotate_left 1)
                              · rw [ei]
                                repeat first | refine lwp_seq fun K hK => ?_ | ((with_reducible refine gA ?_); apply_assumption -exfalso -symm) | refine gB ?_ | refine gC ?_ | refine gD ?_ | refine gE ?_ | refine gF rfl ?_ | refine gG rfl ?_ | refine gH ?_ | refine gI ?_ | refine gJ ?_ | refine gK ?_ | refine gL ?_ | refine lwp_region hC ⟨[], [], []⟩ (told0 _ _) rfl ⟨⟩ ?_
                                (refine lwp_drawn hC (by rw [hP]; exact mixed) ⟨[], [], [(1, Own_i m s [(0, some 2), (1, some 3)]), (3, Given_i l [(0, some 4)]), (11, Guess_i m s (cnt s (prAt l i)) l [(0, some 11), (1, some 12), (2, some 13)])]⟩ (told1 _ (by rw [hP]; exact (calls_cons (Own_s _ _ _ hm' hs') (calls_cons (Given_s _ _ hl') (calls_cons (Guess_s _ _ _ _ _ hm' hs' hl') calls_nil))))) [0, 1, 0, 7, 0, 16, 0, 64, 240, 496, 1008, 2047, 4095, 8191, 8191, 16383, 65535] 16 rfl ?_ ?_; rotate_left 1)
                                · rw [hge, hgr]
                                  repeat first | refine lwp_seq fun K hK => ?_ | ((with_reducible refine gA ?_); apply_assumption -exfalso -symm) | refine gB ?_ | refine gC ?_ | refine gD ?_ | refine gE ?_ | refine gF rfl ?_ | refine gG rfl ?_ | refine gH ?_ | refine gI ?_ | refine gJ ?_ | refine gK ?_ | refine gL ?_ | refine lwp_region hC ⟨[], [], []⟩ (told0 _ _) rfl ⟨⟩ ?_
                                  (refine lwp_region hC ⟨[(2, { b := some false })], [], []⟩ (told0 _ _) rfl ?_ ?_; rotate_left 1)
                                  · repeat first | refine lwp_seq fun K hK => ?_ | ((with_reducible refine gA ?_); apply_assumption -exfalso -symm) | refine gB ?_ | refine gC ?_ | refine gD ?_ | refine gE ?_ | refine gF rfl ?_ | refine gG rfl ?_ | refine gH ?_ | refine gI ?_ | refine gJ ?_ | refine gK ?_ | refine gL ?_ | refine lwp_region hC ⟨[], [], []⟩ (told0 _ _) rfl ⟨⟩ ?_
                                    (refine lwp_cond hC rfl (by first | exact ⟨⟩ | exact sd) (fun hb => ?_) (fun hb => ?_) <;> (try simp only [decide_eq_true_eq, decide_eq_false_iff_not, Bool.not_eq_true', Bool.not_eq_false', ne_eq, Decidable.not_not] at hb))
                                    · exact absurd hb (by simp [plc, thAt, prAt])
                                    · clear hb
                                      repeat first | refine lwp_seq fun K hK => ?_ | ((with_reducible refine gA ?_); apply_assumption -exfalso -symm) | refine gB ?_ | refine gC ?_ | refine gD ?_ | refine gE ?_ | refine gF rfl ?_ | refine gG rfl ?_ | refine gH ?_ | refine gI ?_ | refine gJ ?_ | refine gK ?_ | refine gL ?_ | refine lwp_region hC ⟨[], [], []⟩ (told0 _ _) rfl ⟨⟩ ?_ | refine lwp_region hC ⟨[], [], []⟩ (told0 _ _) rfl (by exact sd) ?_
                                      refine gA ⟨i + 1, ?_, ?_, sub_intro hm [(0, some 0), (1, some 1), (2, some 2), (3, some 3), (4, some 4), (5, some 5), (6, some 6), (7, some 7), (8, some 8)] rfl ?_⟩
                                      · omega
                                      · omega
                                      · exact sd
                                  · exact sd
                                · exact sd
                              · exact sd
                            · clear hb
                              have c1 := cnt_bound hg.ps (prAt l 0)
                              have c2 := cnt_bound hg.ps (prAt l (l.length - 1))
                              obtain ⟨⟨i1, i2⟩, i3, i4⟩ := hg.p 0 (by omega)
                              obtain ⟨⟨j1, j2⟩, j3, j4⟩ := hg.p (l.length - 1) (by omega)
                              have el : ((l.length : Int) - 1).toNat = l.length - 1 := by omega
                              repeat first | refine lwp_seq fun K hK => ?_ | ((with_reducible refine gA ?_); apply_assumption -exfalso -symm) | refine gB ?_ | refine gC ?_ | refine gD ?_ | refine gE ?_ | refine gF rfl ?_ | refine gG rfl ?_ | refine gH ?_ | refine gI ?_ | refine gJ ?_ | refine gK ?_ | refine gL ?_ | refine lwp_region hC ⟨[], [], []⟩ (told0 _ _) rfl ⟨⟩ ?_
                              (refine lwp_drawn2 hC (by rw [hP]; exact mixed) ⟨[], [], []⟩ (told0 _ _) [0, 1, 0, 4, 12, 28, 63, 127, 255, 0, 512, 0, 0, 4096, 12288, 30720, 63488, 129024, 261632, 523776, 1048064, 511, 4194303] 23 0 rfl ?_ ?_; rotate_left 1)
                              · rw [el]
                                repeat first | refine lwp_seq fun K hK => ?_ | ((with_reducible refine gA ?_); apply_assumption -exfalso -symm) | refine gB ?_ | refine gC ?_ | refine gD ?_ | refine gE ?_ | refine gF rfl ?_ | refine gG rfl ?_ | refine gH ?_ | refine gI ?_ | refine gJ ?_ | refine gK ?_ | refine gL ?_ | refine lwp_region hC ⟨[], [], []⟩ (told0 _ _) rfl ⟨⟩ ?_ | refine lwp_region hC ⟨[], [], []⟩ (told0 _ _) rfl (by exact sd) ?_
                                refine lwp_loop (fun i : Nat => ⟨[(142, i64 i), (141, i64 t.smp.length), (13, .sl 9 i), (11, i64 (cnt s (prAt l 0))), (12, i64 (cnt s (prAt l (l.length - 1)))), (1, .sl 4 l.length), (3, .ptr 7 0 0 0), (5, .ptr 8 0 0 0)], [(9, .row 3 i 1 (.ints .i64 (glS m s l t i))), (8, .blk 69 [.lit (.string t.name), i64 t.first, .sl 5 t.smp.length, .sl 6 t.holes.length]), (7, .blk 25 [.sl 2 m.length, .sl 3 s.length]), (0, pwC), (1, fmC), (2, .ro m.length 2 (thC m)), (3, .ro s.length 2 (thC s)), (4, .ro l.length 2 (prC l)), (5, .ro t.smp.length 1 (flC t.smp)), (6, .ro t.holes.length 2 (spC t.holes))], 10⟩) (fun i => i ≤ t.smp.length) (fun i => t.smp.length - i) 0 ⟨?_, sub_intro hm [(0, some 0), (1, some 1), (2, some 2), (3, some 3), (4, some 4), (5, some 5), (6, some 6), (7, some 7), (8, some 8), (9, none)] rfl ?_⟩ ?_
                                · exact Nat.zero_le _
                                · exact sd
                                · rintro i hi
                                  have ei : (i : Int).toNat = i := Int.toNat_natCast i
                                  repeat first | refine lwp_seq fun K hK => ?_ | ((with_reducible refine gA ?_); apply_assumption -exfalso -symm) | refine gB ?_ | refine gC ?_ | refine gD ?_ | refine gE ?_ | refine gF rfl ?_ | refine gG rfl ?_ | refine gH ?_ | refine gI ?_ | refine gJ ?_ | refine gK ?_ | refine gL ?_ | refine lwp_region hC ⟨[], [], []⟩ (told0 _ _) rfl ⟨⟩ ?_
                                  (refine lwp_cond hC rfl (by first | exact ⟨⟩ | exact sd) (fun hb => ?_) (fun hb => ?_) <;> (try simp only [decide_eq_true_eq, decide_eq_false_iff_not, Bool.not_eq_true', Bool.not_eq_false', ne_eq, Decidable.not_not] at hb))
                                  · have hil : i < t.smp.length := by omega
                                    clear hb
                                    have hgb := gs_bound hg hr.h0 (n := t.first + i) (by omega)
                                    have hge : guessE m s (t.first + i) l = 0 := by
                                      unfold guessE
                                      rw [firstS_cons, firstS_cons, firstS_cons, withinS_zero, whenS_zero (by decide)]
                                      exact ⟨hchk, by omega, decide_eq_false (by omega), rfl⟩
                                    have hgr : guessR m s (t.first + i) l = gsS m s l (t.first + i) := by
                                      unfold guessR
                                      rw [if_neg (by rw [hge]; decide)]
                                      rfl
                                    have hgl := glS_len m s l t i
                                    repeat first | refine lwp_seq fun K hK => ?_ | ((with_reducible refine gA ?_); apply_assumption -exfalso -symm) | refine gB ?_ | refine gC ?_ | refine gD ?_ | refine gE ?_ | refine gF rfl ?_ | refine gG rfl ?_ | refine gH ?_ | refine gI ?_ | refine gJ ?_ | refine gK ?_ | refine gL ?_ | refine lwp_region hC ⟨[], [], []⟩ (told0 _ _) rfl ⟨⟩ ?_
                                    (refine lwp_drawn hC (by rw [hP]; exact mixed) ⟨[], [], [(1, Own_i m s [(0, some 2), (1, some 3)]), (3, Given_i l [(0, some 4)]), (8, Guess_i m s (t.first + i) l [(0, some 10), (1, some 11), (2, some 12)])]⟩ (told1 _ (by rw [hP]; exact (calls_cons (Own_s _ _ _ hm' hs') (calls_cons (Given_s _ _ hl') (calls_cons (Guess_s _ _ _ _ _ hm' hs' hl') calls_nil))))) [0, 1, 0, 7, 0, 16, 0, 112, 255, 511, 1023, 1023, 2047, 8191] 13 rfl ?_ ?_; rotate_left 1)
                                    · rw [hge, hgr]
                                      repeat first | refine lwp_seq fun K hK => ?_ | ((with_reducible refine gA ?_); apply_assumption -exfalso -symm) | refine gB ?_ | refine gC ?_ | refine gD ?_ | refine gE ?_ | refine gF rfl ?_ | refine gG rfl ?_ | refine gH ?_ | refine gI ?_ | refine gJ ?_ | refine gK ?_ | refine gL ?_ | refine lwp_region hC ⟨[], [], []⟩ (told0 _ _) rfl ⟨⟩ ?_
                                      by_cases h0i : 0 < i
                                      · have d0 : decide ((0 : Int) < (i : Int)) = true := decide_eq_true (by omega)
                                        have hgi := glS_at m s l t i (i - 1) (by omega)
                                        have ei1 : ((i : Int) - 1).toNat = i - 1 := by omega
                                        obtain ⟨hs1, hs2⟩ := guess_step hg hr.h0 (t.first + (i : Int) - 1)
                                        rw [show t.first + (i : Int) - 1 + 1 = t.first + i by omega] at hs1 hs2
                                        have hgb2 := gs_bound hg hr.h0 (n := t.first + (i : Int) - 1) (by omega)
                                        have hgi2 : (glS m s l t i).getD (i - 1) 0 = gsS m s l (t.first + (i : Int) - 1) := by rw [hgi]; congr 1; omega
                                        have hs1 : gsS m s l (t.first + (i : Int) - 1) ≤ gsS m s l (t.first + i) := hs1
                                        have hs2 : (t.first + i ≤ cnt s (prAt l 0) ∨ cnt s (prAt l (l.length - 1)) ≤ t.first + (i : Int) - 1) → gsS m s l (t.first + i) = gsS m s l (t.first + (i : Int) - 1) + 1 := hs2
                                        clear hgi
                                        generalize gsS m s l (t.first + (i : Int) - 1) = gp at hs1 hs2 hgb2 hgi2
                                        generalize hgc : gsS m s l (t.first + i) = gc at hs1 hs2 hgb ⊢
                                        by_cases c3 : t.first + i ≤ cnt s (prAt l 0)
                                        · have d3 : decide (t.first + i ≤ cnt s (prAt l 0)) = true := decide_eq_true c3
                                          have hs3 := hs2 (.inl c3)
                                          clear hs2
                                          (refine lwp_region hC ⟨[(2, { b := some false }), (5, { b := some true, g := some true }), (13, { b := some false, g := some true }), (20, { b := some true, g := some true }), (21, { g := some false }), (22, { g := some false }), (23, { g := some false }), (24, { g := some false }), (25, { g := some false }), (26, { g := some false }), (28, { b := some true, g := some true })], [], []⟩ (told0 _ _) rfl ?_ ?_; rotate_left 1)
                                          · rw [ei1, hgi2]
                                            repeat first | refine lwp_seq fun K hK => ?_ | ((with_reducible refine gA ?_); apply_assumption -exfalso -symm) | refine gB ?_ | refine gC ?_ | refine gD ?_ | refine gE ?_ | refine gF rfl ?_ | refine gG rfl ?_ | refine gH ?_ | refine gI ?_ | refine gJ ?_ | refine gK ?_ | refine gL ?_ | refine lwp_region hC ⟨[], [], []⟩ (told0 _ _) rfl ⟨⟩ ?_
                                            (refine lwp_cond hC rfl (by first | exact ⟨⟩ | exact sd) (fun hb => ?_) (fun hb => ?_) <;> (try simp only [decide_eq_true_eq, decide_eq_false_iff_not, Bool.not_eq_true', Bool.not_eq_false', ne_eq, Decidable.not_not] at hb))
                                            · exact absurd hb (by simp [hs3])
                                            · clear hb
                                              repeat first | refine lwp_seq fun K hK => ?_ | ((with_reducible refine gA ?_); apply_assumption -exfalso -symm) | refine gB ?_ | refine gC ?_ | refine gD ?_ | refine gE ?_ | refine gF rfl ?_ | refine gG rfl ?_ | refine gH ?_ | refine gI ?_ | refine gJ ?_ | refine gK ?_ | refine gL ?_ | refine lwp_region hC ⟨[], [], []⟩ (told0 _ _) rfl ⟨⟩ ?_
                                              (refine lwp_region hC ⟨[], [], []⟩ (told0 _ _) rfl ?_ ?_; rotate_left 1)
                                              · repeat first | refine lwp_seq fun K hK => ?_ | ((with_reducible refine gA ?_); apply_assumption -exfalso -symm) | refine gB ?_ | refine gC ?_ | refine gD ?_ | refine gE ?_ | refine gF rfl ?_ | refine gG rfl ?_ | refine gH ?_ | refine gI ?_ | refine gJ ?_ | refine gK ?_ | refine gL ?_ | refine lwp_region hC ⟨[], [], []⟩ (told0 _ _) rfl ⟨⟩ ?_ | refine lwp_region hC ⟨[], [], []⟩ (told0 _ _) rfl (by exact sd) ?_
                                                refine gA ⟨i + 1, ?_, ?_, sub_intro hm [(0, some 0), (1, some 1), (2, some 2), (3, some 3), (4, some 4), (5, some 5), (6, some 6), (7, some 7), (8, some 8), (9, some 14)] rfl ?_⟩
                                                · omega
                                                · omega
                                                · have e9 := glS_snoc m s l t i
                                                  rw [hgc] at e9
                                                  rw [e9]
                                                  exact sd
                                              · exact sd
                                          · rw [ei1, hgi2]
                                            simp only [AllL, All, cd_p, cp_p, cv_p, InK]
                                            (repeat' first | refine And.intro ?_ ?_ | intro _) <;> first | trivial | rfl | assumption | omega | exact decide_eq_false (by omega) | exact decide_eq_true (by omega)
                                        · have d3 : decide (t.first + i ≤ cnt s (prAt l 0)) = false := decide_eq_false c3
                                          by_cases c4 : cnt s (prAt l (l.length - 1)) < t.first + i
                                          · have d4 : decide (cnt s (prAt l (l.length - 1)) < t.first + i) = true := decide_eq_true c4
                                            have hs3 := hs2 (.inr (by omega))
                                            clear hs2
                                            (refine lwp_region hC ⟨[(2, { b := some false }), (5, { b := some true, g := some true }), (13, { b := some false, g := some true }), (20, { b := some false, g := some true }), (28, { b := some true, g := some true })], [], []⟩ (told0 _ _) rfl ?_ ?_; rotate_left 1)
                                            · rw [ei1, hgi2]
                                              repeat first | refine lwp_seq fun K hK => ?_ | ((with_reducible refine gA ?_); apply_assumption -exfalso -symm) | refine gB ?_ | refine gC ?_ | refine gD ?_ | refine gE ?_ | refine gF rfl ?_ | refine gG rfl ?_ | refine gH ?_ | refine gI ?_ | refine gJ ?_ | refine gK ?_ | refine gL ?_ | refine lwp_region hC ⟨[], [], []⟩ (told0 _ _) rfl ⟨⟩ ?_
                                              (refine lwp_cond hC rfl (by first | exact ⟨⟩ | exact sd) (fun hb => ?_) (fun hb => ?_) <;> (try simp only [decide_eq_true_eq, decide_eq_false_iff_not, Bool.not_eq_true', Bool.not_eq_false', ne_eq, Decidable.not_not] at hb))
                                              · exact absurd hb (by simp [hs3])
                                              · clear hb
                                                repeat first | refine lwp_seq fun K hK => ?_ | ((with_reducible refine gA ?_); apply_assumption -exfalso -symm) | refine gB ?_ | refine gC ?_ | refine gD ?_ | refine gE ?_ | refine gF rfl ?_ | refine gG rfl ?_ | refine gH ?_ | refine gI ?_ | refine gJ ?_ | refine gK ?_ | refine gL ?_ | refine lwp_region hC ⟨[], [], []⟩ (told0 _ _) rfl ⟨⟩ ?_
                                                (refine lwp_region hC ⟨[], [], []⟩ (told0 _ _) rfl ?_ ?_; rotate_left 1)
                                                · repeat first | refine lwp_seq fun K hK => ?_ | ((with_reducible refine gA ?_); apply_assumption -exfalso -symm) | refine gB ?_ | refine gC ?_ | refine gD ?_ | refine gE ?_ | refine gF rfl ?_ | refine gG rfl ?_ | refine gH ?_ | refine gI ?_ | refine gJ ?_ | refine gK ?_ | refine gL ?_ | refine lwp_region hC ⟨[], [], []⟩ (told0 _ _) rfl ⟨⟩ ?_ | refine lwp_region hC ⟨[], [], []⟩ (told0 _ _) rfl (by exact sd) ?_
                                                  refine gA ⟨i + 1, ?_, ?_, sub_intro hm [(0, some 0), (1, some 1), (2, some 2), (3, some 3), (4, some 4), (5, some 5), (6, some 6), (7, some 7), (8, some 8), (9, some 14)] rfl ?_⟩
                                                  · omega
                                                  · omega
                                                  · have e9 := glS_snoc m s l t i
                                                    rw [hgc] at e9
                                                    rw [e9]
                                                    exact sd
                                                · exact sd
                                            · rw [ei1, hgi2]
                                              simp only [AllL, All, cd_p, cp_p, cv_p, InK]
                                              (repeat' first | refine And.intro ?_ ?_ | intro _) <;> first | trivial | rfl | assumption | omega | exact decide_eq_false (by omega) | exact decide_eq_true (by omega)
                                          · have d4 : decide (cnt s (prAt l (l.length - 1)) < t.first + i) = false := decide_eq_false c4
                                            clear hs2
                                            (refine lwp_region hC ⟨[(2, { b := some false }), (5, { b := some true, g := some true }), (13, { b := some false, g := some true }), (20, { b := some false, g := some true }), (28, { b := some false, g := some true }), (29, { g := some false }), (30, { g := some false }), (31, { g := some false }), (32, { g := some false }), (33, { g := some false }), (34, { g := some false }), (35, { g := some false }), (36, { g := some false })], [], []⟩ (told0 _ _) rfl ?_ ?_; rotate_left 1)
                                            · (try rw [ei1, hgi2])
                                              repeat first | refine lwp_seq fun K hK => ?_ | ((with_reducible refine gA ?_); apply_assumption -exfalso -symm) | refine gB ?_ | refine gC ?_ | refine gD ?_ | refine gE ?_ | refine gF rfl ?_ | refine gG rfl ?_ | refine gH ?_ | refine gI ?_ | refine gJ ?_ | refine gK ?_ | refine gL ?_ | refine lwp_region hC ⟨[], [], []⟩ (told0 _ _) rfl ⟨⟩ ?_
                                              (refine lwp_cond hC rfl (by first | exact ⟨⟩ | exact sd) (fun hb => ?_) (fun hb => ?_) <;> (try simp only [decide_eq_true_eq, decide_eq_false_iff_not, Bool.not_eq_true', Bool.not_eq_false', ne_eq, Decidable.not_not] at hb))
                                              · exact absurd hb (by simp)
                                              · clear hb
                                                repeat first | refine lwp_seq fun K hK => ?_ | ((with_reducible refine gA ?_); apply_assumption -exfalso -symm) | refine gB ?_ | refine gC ?_ | refine gD ?_ | refine gE ?_ | refine gF rfl ?_ | refine gG rfl ?_ | refine gH ?_ | refine gI ?_ | refine gJ ?_ | refine gK ?_ | refine gL ?_ | refine lwp_region hC ⟨[], [], []⟩ (told0 _ _) rfl ⟨⟩ ?_
                                                (refine lwp_region hC ⟨[], [], []⟩ (told0 _ _) rfl ?_ ?_; rotate_left 1)
                                                · repeat first | refine lwp_seq fun K hK => ?_ | ((with_reducible refine gA ?_); apply_assumption -exfalso -symm) | refine gB ?_ | refine gC ?_ | refine gD ?_ | refine gE ?_ | refine gF rfl ?_ | refine gG rfl ?_ | refine gH ?_ | refine gI ?_ | refine gJ ?_ | refine gK ?_ | refine gL ?_ | refine lwp_region hC ⟨[], [], []⟩ (told0 _ _) rfl ⟨⟩ ?_ | refine lwp_region hC ⟨[], [], []⟩ (told0 _ _) rfl (by exact sd) ?_
                                                  refine gA ⟨i + 1, ?_, ?_, sub_intro hm [(0, some 0), (1, some 1), (2, some 2), (3, some 3), (4, some 4), (5, some 5), (6, some 6), (7, some 7), (8, some 8), (9, some 14)] rfl ?_⟩
                                                  · omega
                                                  · omega
                                                  · have e9 := glS_snoc m s l t i
                                                    rw [hgc] at e9
                                                    rw [e9]
                                                    exact sd
                                                · exact sd
                                            · (try rw [ei1, hgi2])
                                              simp only [AllL, All, cd_p, cp_p, cv_p, InK]
                                              (repeat' first | refine And.intro ?_ ?_ | intro _) <;> first | trivial | rfl | assumption | omega | exact decide_eq_false (by omega) | exact decide_eq_true (by omega)
                                      · have d0 : decide ((0 : Int) < (i : Int)) = false := decide_eq_false (by omega)
                                        generalize hgc : gsS m s l (t.first + i) = gc at hgb ⊢
                                        (refine lwp_region hC ⟨[(2, { b := some false }), (5, { b := some false, g := some true }), (6, { g := some false }), (7, { g := some false }), (8, { g := some false }), (9, { g := some false }), (10, { g := some false }), (11, { g := some false }), (12, { g := some false }), (13, { g := some false }), (14, { g := some false }), (15, { g := some false }), (16, { g := some false }), (17, { g := some false }), (18, { g := some false }), (19, { g := some false }), (20, { g := some false }), (21, { g := some false }), (22, { g := some false }), (23, { g := some false }), (24, { g := some false }), (25, { g := some false }), (26, { g := some false }), (27, { g := some false }), (28, { g := some false }), (29, { g := some false }), (30, { g := some false }), (31, { g := some false }), (32, { g := some false }), (33, { g := some false }), (34, { g := some false }), (35, { g := some false }), (36, { g := some false }), (37, { g := some false }), (38, { g := some false })], [], []⟩ (told0 _ _) rfl ?_ ?_; rotate_left 1)
                                        · skip
                                          repeat first | refine lwp_seq fun K hK => ?_ | ((with_reducible refine gA ?_); apply_assumption -exfalso -symm) | refine gB ?_ | refine gC ?_ | refine gD ?_ | refine gE ?_ | refine gF rfl ?_ | refine gG rfl ?_ | refine gH ?_ | refine gI ?_ | refine gJ ?_ | refine gK ?_ | refine gL ?_ | refine lwp_region hC ⟨[], [], []⟩ (told0 _ _) rfl ⟨⟩ ?_
                                          (refine lwp_cond hC rfl (by first | exact ⟨⟩ | exact sd) (fun hb => ?_) (fun hb => ?_) <;> (try simp only [decide_eq_true_eq, decide_eq_false_iff_not, Bool.not_eq_true', Bool.not_eq_false', ne_eq, Decidable.not_not] at hb))
                                          · exact absurd hb (by simp)
                                          · clear hb
                                            repeat first | refine lwp_seq fun K hK => ?_ | ((with_reducible refine gA ?_); apply_assumption -exfalso -symm) | refine gB ?_ | refine gC ?_ | refine gD ?_ | refine gE ?_ | refine gF rfl ?_ | refine gG rfl ?_ | refine gH ?_ | refine gI ?_ | refine gJ ?_ | refine gK ?_ | refine gL ?_ | refine lwp_region hC ⟨[], [], []⟩ (told0 _ _) rfl ⟨⟩ ?_
                                            (refine lwp_region hC ⟨[], [], []⟩ (told0 _ _) rfl ?_ ?_; rotate_left 1)
                                            · repeat first | refine lwp_seq fun K hK => ?_ | ((with_reducible refine gA ?_); apply_assumption -exfalso -symm) | refine gB ?_ | refine gC ?_ | refine gD ?_ | refine gE ?_ | refine gF rfl ?_ | refine gG rfl ?_ | refine gH ?_ | refine gI ?_ | refine gJ ?_ | refine gK ?_ | refine gL ?_ | refine lwp_region hC ⟨[], [], []⟩ (told0 _ _) rfl ⟨⟩ ?_ | refine lwp_region hC ⟨[], [], []⟩ (told0 _ _) rfl (by exact sd) ?_
                                              refine gA ⟨i + 1, ?_, ?_, sub_intro hm [(0, some 0), (1, some 1), (2, some 2), (3, some 3), (4, some 4), (5, some 5), (6, some 6), (7, some 7), (8, some 8), (9, some 14)] rfl ?_⟩
                                              · omega
                                              · omega
                                              · have e9 := glS_snoc m s l t i
                                                rw [hgc] at e9
                                                rw [e9]
                                                exact sd
                                            · exact sd
                                        · skip
                                          simp only [AllL, All, cd_p, cp_p, cv_p, InK]
                                          (repeat' first | refine And.intro ?_ ?_ | intro _) <;> first | trivial | rfl | assumption | omega | exact decide_eq_false (by omega) | exact decide_eq_true (by omega)
                                    · exact sd
                                  · have e : i = t.smp.length := by omega
                                    clear hb
                                    rw [e]
                                    generalize hn : t.smp.length = n
                                    repeat first | refine lwp_seq fun K hK => ?_ | ((with_reducible refine gA ?_); apply_assumption -exfalso -symm) | refine gB ?_ | refine gC ?_ | refine gD ?_ | refine gE ?_ | refine gF rfl ?_ | refine gG rfl ?_ | refine gH ?_ | refine gI ?_ | refine gJ ?_ | refine gK ?_ | refine gL ?_ | refine lwp_region hC ⟨[], [], []⟩ (told0 _ _) rfl ⟨⟩ ?_
                                    (refine lwp_drawn2 hC (by rw [hP]; exact mixed) ⟨[], [], [(1, Own_i m s [(0, some 2), (1, some 3)]), (3, Given_i l [(0, some 4)]), (5, LRun_i t [(0, some 5), (1, some 6)]), (6, PReg_i m s l t [(0, some 10), (1, some 11), (2, some 12), (3, some 13), (4, some 14)])]⟩ (told1 _ (by rw [hP]; exact (calls_cons (Own_s _ _ _ hm' hs') (calls_cons (Given_s _ _ hl') (calls_cons (LRun_s _ _ (by omega) (by omega)) (calls_cons (PReg_s _ _ _ _ _ hm' hs' hl' (by omega) (by omega)) calls_nil)))))) [0, 1, 0, 7, 0, 31, 63, 127, 255, 255, 0, 1535, 4095] 11 512 rfl ?_ ?_; rotate_left 1)
                                    · have hgl := glS_len m s l t n
                                      have g0 : (glS m s l t n).getD 0 0 = frS m s l t := by rw [glS_at m s l t n 0 (by omega)]; unfold frS; congr 1; omega
                                      have g1 : (glS m s l t n).getD ((n : Int) - 1).toNat 0 = toS m s l t := by rw [show ((n : Int) - 1).toNat = n - 1 by omega, glS_at m s l t n (n - 1) (by omega)]; unfold toS; congr 1; omega
                                      repeat first | refine lwp_seq fun K hK => ?_ | ((with_reducible refine gA ?_); apply_assumption -exfalso -symm) | refine gB ?_ | refine gC ?_ | refine gD ?_ | refine gE ?_ | refine gF rfl ?_ | refine gG rfl ?_ | refine gH ?_ | refine gI ?_ | refine gJ ?_ | refine gK ?_ | refine gL ?_ | refine lwp_region hC ⟨[], [], []⟩ (told0 _ _) rfl ⟨⟩ ?_
                                      (refine lwp_drawn hC (by rw [hP]; exact mixed) ⟨[], [], []⟩ (told0 _ _) [0, 1, 3, 0, 0, 16, 48, 120, 248, 7, 1023] 10 rfl ?_ ?_; rotate_left 1)
                                      · rw [g1, show (glS m s l t n).getD (0 : Int).toNat 0 = frS m s l t from g0]
                                        repeat first | refine lwp_seq fun K hK => ?_ | ((with_reducible refine gA ?_); apply_assumption -exfalso -symm) | refine gB ?_ | refine gC ?_ | refine gD ?_ | refine gE ?_ | refine gF rfl ?_ | refine gG rfl ?_ | refine gH ?_ | refine gI ?_ | refine gJ ?_ | refine gK ?_ | refine gL ?_ | refine lwp_region hC ⟨[], [], []⟩ (told0 _ _) rfl ⟨⟩ ?_
                                        by_cases hcz : cgE m s l t = 0
                                        · rw [show rgQ m s l t = (mdR t.name (frS m s l t) (regA m s l t t.smp.length), 0) by unfold rgQ; rw [if_neg (by rw [hpg]; decide), if_neg (by rw [hcz]; decide)]]
                                          obtain ⟨z1, z2, z3⟩ := cg_zero hcz
                                          have hft := hr.fr.2.2
                                          have hLen : (regA m s l t t.smp.length).length = nIx m s l t := rgA_len _ _ _ _
                                          have hNv : (nIx m s l t : Int) = toS m s l t - frS m s l t + 1 := by unfold nIx; omega
                                          have hokA : ∀ p ∈ regA m s l t t.smp.length, (p.2 = true → partS p.1 = 0) ∧ (p.2 = false → p.1 = 0) := rgA_ok hr.v.p _ _ _ (Nat.le_refl _)
                                          have hzy := mdR_ok (name := t.name) (f := frS m s l t) (A := regA m s l t t.smp.length) hname z1.1 (by omega) (by omega) hokA
                                          have hlw : ∀ j, j < nIx m s l t → (lwS t (gIx m s l t) j n).1 = ((regA m s l t t.smp.length).getD j (0, false)).2 ∧ (lwS t (gIx m s l t) j n).2 = lvP ((regA m s l t t.smp.length).getD j (0, false)) := fun j hj => by rw [hn]; exact rgA_last t _ _ j hj _
                                          have hHH := mdH_len ((regA m s l t t.smp.length).map fun x => x.2) (regA m s l t t.smp.length).length
                                          have hHL : ∀ j, j < nIx m s l t → knownB (mdH ((regA m s l t t.smp.length).map fun x => x.2) (regA m s l t t.smp.length).length) j = ((regA m s l t t.smp.length).getD j (0, false)).2 := fun j hj => by
                                            have h := (mdH_ok ((regA m s l t t.smp.length).map fun x => x.2) (regA m s l t t.smp.length).length).2 j
                                            rw [map_at (fun x : Nat × Bool => x.2) (0, false) false _ j (by omega)] at h
                                            have h2 : ((regA m s l t t.smp.length).getD j (0, false)).2 = true ↔ (j < (regA m s l t t.smp.length).length → ((regA m s l t t.smp.length).getD j (0, false)).2 = true) := ⟨fun h _ => h, fun h => h (by omega)⟩
                                            exact Bool.eq_iff_iff.2 (h.trans h2.symm)
                                          generalize hff : frS m s l t = f at *
                                          generalize hgg : gIx m s l t = g at *
                                          generalize regA m s l t t.smp.length = A at *
                                          generalize hNq : nIx m s l t = N at *
                                          generalize hto : toS m s l t = u at *
                                          have hRn : (mdR t.name f A).name = t.name := rfl
                                          have hRf : (mdR t.name f A).first = f := rfl
                                          have hRs : (mdR t.name f A).smp = A.map fun x => x.1 := rfl
                                          have hRh : (mdR t.name f A).holes = mdH (A.map fun x => x.2) A.length := rfl
                                          have hRl : (mdR t.name f A).smp.length = N := by rw [hRs, List.length_map]; exact hLen
                                          rw [← hRh] at hHH hHL
                                          clear hRh
                                          generalize mdR t.name f A = R at *
                                          repeat first | refine lwp_seq fun K hK => ?_ | ((with_reducible refine gA ?_); apply_assumption -exfalso -symm) | refine gB ?_ | refine gC ?_ | refine gD ?_ | refine gE ?_ | refine gF rfl ?_ | refine gG rfl ?_ | refine gH ?_ | refine gI ?_ | refine gJ ?_ | refine gK ?_ | refine gL ?_ | refine lwp_region hC ⟨[], [], []⟩ (told0 _ _) rfl ⟨⟩ ?_
                                          (refine lwp_cond hC rfl (by first | exact ⟨⟩ | exact sd) (fun hb => ?_) (fun hb => ?_) <;> (try simp only [decide_eq_true_eq, decide_eq_false_iff_not, Bool.not_eq_true', Bool.not_eq_false', ne_eq, Decidable.not_not] at hb))
                                          · exact absurd hb (by simp)
                                          · clear hb
                                            repeat first | refine lwp_seq fun K hK => ?_ | ((with_reducible refine gA ?_); apply_assumption -exfalso -symm) | refine gB ?_ | refine gC ?_ | refine gD ?_ | refine gE ?_ | refine gF rfl ?_ | refine gG rfl ?_ | refine gH ?_ | refine gI ?_ | refine gJ ?_ | refine gK ?_ | refine gL ?_ | refine lwp_region hC ⟨[], [], []⟩ (told0 _ _) rfl ⟨⟩ ?_
                                            (refine lwp_region hC ⟨[(4, { b := some false }), (11, { b := some false }), (17, { b := some false })], [], [(1, Told_i R [(0, some 15), (1, some 16)]), (2, RRun_i R [(0, some 15), (1, some 16)])]⟩ (told1 _ (by rw [hP]; exact (calls_cons (Told_s _ _) (calls_cons (RRun_s _ _ (by rw [hRn]; omega) (by rw [hRl]; omega) (by omega)) calls_nil)))) rfl ?_ ?_; rotate_left 1)
                                            · repeat first | refine lwp_seq fun K hK => ?_ | ((with_reducible refine gA ?_); apply_assumption -exfalso -symm) | refine gB ?_ | refine gC ?_ | refine gD ?_ | refine gE ?_ | refine gF rfl ?_ | refine gG rfl ?_ | refine gH ?_ | refine gI ?_ | refine gJ ?_ | refine gK ?_ | refine gL ?_ | refine lwp_region hC ⟨[], [], []⟩ (told0 _ _) rfl ⟨⟩ ?_
                                              (refine lwp_cond hC rfl (by first | exact ⟨⟩ | exact sd) (fun hb => ?_) (fun hb => ?_) <;> (try simp only [decide_eq_true_eq, decide_eq_false_iff_not, Bool.not_eq_true', Bool.not_eq_false', ne_eq, Decidable.not_not] at hb))
                                              · have hb2 : decide ((R.smp.length : Int) ≠ u - f + 1) = true := hb
                                                exact absurd (of_decide_eq_true hb2) (by rw [hRl]; omega)
                                              · clear hb
                                                repeat first | refine lwp_seq fun K hK => ?_ | ((with_reducible refine gA ?_); apply_assumption -exfalso -symm) | refine gB ?_ | refine gC ?_ | refine gD ?_ | refine gE ?_ | refine gF rfl ?_ | refine gG rfl ?_ | refine gH ?_ | refine gI ?_ | refine gJ ?_ | refine gK ?_ | refine gL ?_ | refine lwp_region hC ⟨[], [], []⟩ (told0 _ _) rfl ⟨⟩ ?_ | refine lwp_region hC ⟨[], [], []⟩ (told0 _ _) rfl (by exact sd) ?_
                                                refine lwp_loop (fun j : Nat => ⟨[(274, i64 j), (273, i64 R.smp.length), (13, .sl 9 n), (17, .ptr 17 0 0 0), (19, i64 f), (5, .ptr 8 0 0 0)], [(17, .blk 72 [.lit (.string R.name), i64 R.first, .sl 15 R.smp.length, .sl 16 R.holes.length]), (15, .row 134 R.smp.length 1 (flC R.smp)), (16, .row 168 R.holes.length 2 (spC R.holes)), (9, .row 3 n 1 (.ints .i64 (glS m s l t n))), (8, .blk 69 [.lit (.string t.name), i64 t.first, .sl 5 t.smp.length, .sl 6 t.holes.length]), (7, .blk 25 [.sl 2 m.length, .sl 3 s.length]), (0, pwC), (1, fmC), (2, .ro m.length 2 (thC m)), (3, .ro s.length 2 (thC s)), (4, .ro l.length 2 (prC l)), (5, .ro t.smp.length 1 (flC t.smp)), (6, .ro t.holes.length 2 (spC t.holes))], 19⟩) (fun j => j ≤ N) (fun j => N - j) 0 ⟨?_, sub_intro hm [(0, some 0), (1, some 1), (2, some 2), (3, some 3), (4, some 4), (5, some 5), (6, some 6), (7, some 7), (8, some 8), (9, some 9), (15, some 15), (16, some 16), (17, some 17)] rfl ?_⟩ ?_
                                                · exact Nat.zero_le _
                                                · exact sd
                                                · rintro j hj
                                                  have ejj : (j : Int).toNat = j := Int.toNat_natCast j
                                                  repeat first | refine lwp_seq fun K hK => ?_ | ((with_reducible refine gA ?_); apply_assumption -exfalso -symm) | refine gB ?_ | refine gC ?_ | refine gD ?_ | refine gE ?_ | refine gF rfl ?_ | refine gG rfl ?_ | refine gH ?_ | refine gI ?_ | refine gJ ?_ | refine gK ?_ | refine gL ?_ | refine lwp_region hC ⟨[], [], []⟩ (told0 _ _) rfl ⟨⟩ ?_
                                                  (refine lwp_cond hC rfl (by first | exact ⟨⟩ | exact sd) (fun hb => ?_) (fun hb => ?_) <;> (try simp only [decide_eq_true_eq, decide_eq_false_iff_not, Bool.not_eq_true', Bool.not_eq_false', ne_eq, Decidable.not_not] at hb))
                                                  · have hjl : j < N := by omega
                                                    clear hb
                                                    repeat first | refine lwp_seq fun K hK => ?_ | ((with_reducible refine gA ?_); apply_assumption -exfalso -symm) | refine gB ?_ | refine gC ?_ | refine gD ?_ | refine gE ?_ | refine gF rfl ?_ | refine gG rfl ?_ | refine gH ?_ | refine gI ?_ | refine gJ ?_ | refine gK ?_ | refine gL ?_ | refine lwp_region hC ⟨[], [], []⟩ (told0 _ _) rfl ⟨⟩ ?_ | refine lwp_region hC ⟨[], [], []⟩ (told0 _ _) rfl (by exact sd) ?_
                                                    refine lwp_loop (fun k : Nat => ⟨[(279, i64 k), (278, i64 n), (277, .sl 9 n), (22, bl (lwS t g j k).1), (23, i64 (lwS t g j k).2), (21, i64 j), (274, i64 j), (273, i64 R.smp.length), (13, .sl 9 n), (17, .ptr 17 0 0 0), (19, i64 f), (5, .ptr 8 0 0 0)], [(17, .blk 72 [.lit (.string R.name), i64 R.first, .sl 15 R.smp.length, .sl 16 R.holes.length]), (15, .row 134 R.smp.length 1 (flC R.smp)), (16, .row 168 R.holes.length 2 (spC R.holes)), (9, .row 3 n 1 (.ints .i64 (glS m s l t n))), (8, .blk 69 [.lit (.string t.name), i64 t.first, .sl 5 t.smp.length, .sl 6 t.holes.length]), (7, .blk 25 [.sl 2 m.length, .sl 3 s.length]), (0, pwC), (1, fmC), (2, .ro m.length 2 (thC m)), (3, .ro s.length 2 (thC s)), (4, .ro l.length 2 (prC l)), (5, .ro t.smp.length 1 (flC t.smp)), (6, .ro t.holes.length 2 (spC t.holes))], 19⟩) (fun k => k ≤ n) (fun k => n - k) 0 ⟨?_, sub_intro hm [(0, some 0), (1, some 1), (2, some 2), (3, some 3), (4, some 4), (5, some 5), (6, some 6), (7, some 7), (8, some 8), (9, some 9), (15, some 15), (16, some 16), (17, some 17)] rfl ?_⟩ ?_
                                                    · exact Nat.zero_le _
                                                    · unfold lwS
                                                      exact sd
                                                    · rintro k hk
                                                      have ek : (k : Int).toNat = k := Int.toNat_natCast k
                                                      have hst : lwS t g j (k + 1) = if g k = j ∧ knownB t.holes k = true then (true, cutW (x16 (t.smp.getD k 0))) else lwS t g j k := rfl
                                                      have hend : k = n → lwS t g j n = lwS t g j k := fun h => by rw [h]
                                                      generalize lwS t g j k = q at hst hend ⊢
                                                      obtain ⟨q1, q2⟩ := q
                                                      dsimp only at hst hend ⊢
                                                      repeat first | refine lwp_seq fun K hK => ?_ | ((with_reducible refine gA ?_); apply_assumption -exfalso -symm) | refine gB ?_ | refine gC ?_ | refine gD ?_ | refine gE ?_ | refine gF rfl ?_ | refine gG rfl ?_ | refine gH ?_ | refine gI ?_ | refine gJ ?_ | refine gK ?_ | refine gL ?_ | refine lwp_region hC ⟨[], [], []⟩ (told0 _ _) rfl ⟨⟩ ?_
                                                      (refine lwp_cond hC rfl (by first | exact ⟨⟩ | exact sd) (fun hb => ?_) (fun hb => ?_) <;> (try simp only [decide_eq_true_eq, decide_eq_false_iff_not, Bool.not_eq_true', Bool.not_eq_false', ne_eq, Decidable.not_not] at hb))
                                                      · have hkl : k < n := by omega
                                                        clear hb hend
                                                        have hgk := glS_at m s l t n k hkl
                                                        have hat := hr.at (i := k) (by omega)
                                                        rw [show frS m s l t = f from hff] at hat
                                                        have hgv : (g k : Int) = gsS m s l (t.first + k) - f := by rw [← hgg, ← hff]; unfold gIx; omega
                                                        have hp := hr.v.p _ (mem_getD (show k < t.smp.length by omega))
                                                        repeat first | refine lwp_seq fun K hK => ?_ | ((with_reducible refine gA ?_); apply_assumption -exfalso -symm) | refine gB ?_ | refine gC ?_ | refine gD ?_ | refine gE ?_ | refine gF rfl ?_ | refine gG rfl ?_ | refine gH ?_ | refine gI ?_ | refine gJ ?_ | refine gK ?_ | refine gL ?_ | refine lwp_region hC ⟨[], [], []⟩ (told0 _ _) rfl ⟨⟩ ?_
                                                        (refine lwp_region hC ⟨[], [], []⟩ (told0 _ _) rfl ?_ ?_; rotate_left 1)
                                                        · rw [ek, hgk]
                                                          repeat first | refine lwp_seq fun K hK => ?_ | ((with_reducible refine gA ?_); apply_assumption -exfalso -symm) | refine gB ?_ | refine gC ?_ | refine gD ?_ | refine gE ?_ | refine gF rfl ?_ | refine gG rfl ?_ | refine gH ?_ | refine gI ?_ | refine gJ ?_ | refine gK ?_ | refine gL ?_ | refine lwp_region hC ⟨[], [], []⟩ (told0 _ _) rfl ⟨⟩ ?_
                                                          by_cases hj2 : gsS m s l (t.first + k) = f + j
                                                          · have d1 : decide (gsS m s l (t.first + k) = f + j) = true := decide_eq_true hj2
                                                            have hgj : g k = j := by omega
                                                            (refine lwp_region hC ⟨[(5, { b := some true })], [], [(8, RIsKnown_i t k [(0, some 5), (1, some 6)])]⟩ (told1 _ (by rw [hP]; exact (calls_cons (RIsKnown_s _ _ _ hr.v.h) calls_nil))) rfl ?_ ?_; rotate_left 1)
                                                            · repeat first | refine lwp_seq fun K hK => ?_ | ((with_reducible refine gA ?_); apply_assumption -exfalso -symm) | refine gB ?_ | refine gC ?_ | refine gD ?_ | refine gE ?_ | refine gF rfl ?_ | refine gG rfl ?_ | refine gH ?_ | refine gI ?_ | refine gJ ?_ | refine gK ?_ | refine gL ?_ | refine lwp_region hC ⟨[], [], []⟩ (told0 _ _) rfl ⟨⟩ ?_
                                                              (refine lwp_cond hC rfl (by first | exact ⟨⟩ | exact sd) (fun hb => ?_) (fun hb => ?_) <;> (try simp only [decide_eq_true_eq, decide_eq_false_iff_not, Bool.not_eq_true', Bool.not_eq_false', ne_eq, Decidable.not_not] at hb))
                                                              · have hkn : knownB t.holes k = true := by simpa using hb
                                                                rw [if_pos ⟨hgj, hkn⟩] at hst
                                                                clear hb
                                                                repeat first | refine lwp_seq fun K hK => ?_ | ((with_reducible refine gA ?_); apply_assumption -exfalso -symm) | refine gB ?_ | refine gC ?_ | refine gD ?_ | refine gE ?_ | refine gF rfl ?_ | refine gG rfl ?_ | refine gH ?_ | refine gI ?_ | refine gJ ?_ | refine gK ?_ | refine gL ?_ | refine lwp_region hC ⟨[], [], []⟩ (told0 _ _) rfl ⟨⟩ ?_
                                                                (refine lwp_region hC ⟨[], [], [(5, RCut_i (t.smp.getD k 0))]⟩ (told1 _ (by rw [hP]; exact (calls_cons (RCut_s _ hp) calls_nil))) rfl ?_ ?_; rotate_left 1)
                                                                · repeat first | refine lwp_seq fun K hK => ?_ | ((with_reducible refine gA ?_); apply_assumption -exfalso -symm) | refine gB ?_ | refine gC ?_ | refine gD ?_ | refine gE ?_ | refine gF rfl ?_ | refine gG rfl ?_ | refine gH ?_ | refine gI ?_ | refine gJ ?_ | refine gK ?_ | refine gL ?_ | refine lwp_region hC ⟨[], [], []⟩ (told0 _ _) rfl ⟨⟩ ?_
                                                                  (refine lwp_region hC ⟨[], [], []⟩ (told0 _ _) rfl ?_ ?_; rotate_left 1)
                                                                  rotate_left 1
                                                                  · simp only [AllL, All, cd_p, cp_p, cv_p, InK, and_true, true_and]
                                                                    omega
                                                                  repeat first | refine lwp_seq fun K hK => ?_ | ((with_reducible refine gA ?_); apply_assumption -exfalso -symm) | refine gB ?_ | refine gC ?_ | refine gD ?_ | refine gE ?_ | refine gF rfl ?_ | refine gG rfl ?_ | refine gH ?_ | refine gI ?_ | refine gJ ?_ | refine gK ?_ | refine gL ?_ | refine lwp_region hC ⟨[], [], []⟩ (told0 _ _) rfl ⟨⟩ ?_
                                                                  refine gA ⟨k + 1, ?_, ?_, sub_intro hm [(0, some 0), (1, some 1), (2, some 2), (3, some 3), (4, some 4), (5, some 5), (6, some 6), (7, some 7), (8, some 8), (9, some 9), (15, some 15), (16, some 16), (17, some 17)] rfl ?_⟩
                                                                  · omega
                                                                  · omega
                                                                  · rw [hst]
                                                                    exact sd
                                                                · rw [ek]
                                                                  exact sd
                                                              · have hkn : ¬ knownB t.holes k = true := by simpa using hb
                                                                rw [if_neg (fun h => hkn h.2)] at hst
                                                                clear hb
                                                                repeat first | refine lwp_seq fun K hK => ?_ | ((with_reducible refine gA ?_); apply_assumption -exfalso -symm) | refine gB ?_ | refine gC ?_ | refine gD ?_ | refine gE ?_ | refine gF rfl ?_ | refine gG rfl ?_ | refine gH ?_ | refine gI ?_ | refine gJ ?_ | refine gK ?_ | refine gL ?_ | refine lwp_region hC ⟨[], [], []⟩ (told0 _ _) rfl ⟨⟩ ?_
                                                                (refine lwp_region hC ⟨[], [], []⟩ (told0 _ _) rfl ?_ ?_; rotate_left 1)
                                                                rotate_left 1
                                                                · simp only [AllL, All, cd_p, cp_p, cv_p, InK, and_true, true_and]
                                                                  omega
                                                                repeat first | refine lwp_seq fun K hK => ?_ | ((with_reducible refine gA ?_); apply_assumption -exfalso -symm) | refine gB ?_ | refine gC ?_ | refine gD ?_ | refine gE ?_ | refine gF rfl ?_ | refine gG rfl ?_ | refine gH ?_ | refine gI ?_ | refine gJ ?_ | refine gK ?_ | refine gL ?_ | refine lwp_region hC ⟨[], [], []⟩ (told0 _ _) rfl ⟨⟩ ?_
                                                                refine gA ⟨k + 1, ?_, ?_, sub_intro hm [(0, some 0), (1, some 1), (2, some 2), (3, some 3), (4, some 4), (5, some 5), (6, some 6), (7, some 7), (8, some 8), (9, some 9), (15, some 15), (16, some 16), (17, some 17)] rfl ?_⟩
                                                                · omega
                                                                · omega
                                                                · rw [hst]
                                                                  exact sd
                                                            · rw [d1]
                                                              exact sd
                                                          · have d1 : decide (gsS m s l (t.first + k) = f + j) = false := decide_eq_false hj2
                                                            have hgj : ¬ g k = j := by omega
                                                            (refine lwp_region hC ⟨[(5, { b := some false }), (6, { g := some false }), (7, { g := some false }), (8, { g := some false })], [], []⟩ (told0 _ _) rfl ?_ ?_; rotate_left 1)
                                                            · repeat first | refine lwp_seq fun K hK => ?_ | ((with_reducible refine gA ?_); apply_assumption -exfalso -symm) | refine gB ?_ | refine gC ?_ | refine gD ?_ | refine gE ?_ | refine gF rfl ?_ | refine gG rfl ?_ | refine gH ?_ | refine gI ?_ | refine gJ ?_ | refine gK ?_ | refine gL ?_ | refine lwp_region hC ⟨[], [], []⟩ (told0 _ _) rfl ⟨⟩ ?_
                                                              (refine lwp_cond hC rfl (by first | exact ⟨⟩ | exact sd) (fun hb => ?_) (fun hb => ?_) <;> (try simp only [decide_eq_true_eq, decide_eq_false_iff_not, Bool.not_eq_true', Bool.not_eq_false', ne_eq, Decidable.not_not] at hb))
                                                              · exact absurd hb (by simp)
                                                              · rw [if_neg (fun h => hgj h.1)] at hst
                                                                clear hb
                                                                repeat first | refine lwp_seq fun K hK => ?_ | ((with_reducible refine gA ?_); apply_assumption -exfalso -symm) | refine gB ?_ | refine gC ?_ | refine gD ?_ | refine gE ?_ | refine gF rfl ?_ | refine gG rfl ?_ | refine gH ?_ | refine gI ?_ | refine gJ ?_ | refine gK ?_ | refine gL ?_ | refine lwp_region hC ⟨[], [], []⟩ (told0 _ _) rfl ⟨⟩ ?_ | refine lwp_region hC ⟨[], [], []⟩ (told0 _ _) rfl (by exact sd) ?_
                                                                refine gA ⟨k + 1, ?_, ?_, sub_intro hm [(0, some 0), (1, some 1), (2, some 2), (3, some 3), (4, some 4), (5, some 5), (6, some 6), (7, some 7), (8, some 8), (9, some 9), (15, some 15), (16, some 16), (17, some 17)] rfl ?_⟩
                                                                · omega
                                                                · omega
                                                                · rw [hst]
                                                                  exact sd
                                                            · rw [d1]
                                                              exact sd
                                                        · rw [ek]
                                                          exact sd
                                                      · have hend := hend (by omega)
                                                        clear hst hb
                                                        obtain ⟨w1, w2⟩ := hlw j hjl
                                                        rw [hend] at w1 w2
                                                        dsimp only at w1 w2
                                                        have w3 : knownB R.holes j = q1 := by rw [w1]; exact hHL j hjl
                                                        have w4 : R.smp.getD j 0 = (A.getD j (0, false)).1 := by rw [hRs]; exact map_at (fun x : Nat × Bool => x.1) (0, false) 0 A j (by omega)
                                                        have hmem : A.getD j (0, false) ∈ A := by
                                                          rw [List.getD_eq_getElem?_getD, List.getElem?_eq_getElem (show j < A.length by omega)]
                                                          exact List.getElem_mem _
                                                        have w5 := hokA _ hmem
                                                        generalize A.getD j (0, false) = pj at w1 w2 w4 w5
                                                        obtain ⟨px, pk⟩ := pj
                                                        dsimp only at w1 w2 w4 w5
                                                        subst w1
                                                        repeat first | refine lwp_seq fun K hK => ?_ | ((with_reducible refine gA ?_); apply_assumption -exfalso -symm) | refine gB ?_ | refine gC ?_ | refine gD ?_ | refine gE ?_ | refine gF rfl ?_ | refine gG rfl ?_ | refine gH ?_ | refine gI ?_ | refine gJ ?_ | refine gK ?_ | refine gL ?_ | refine lwp_region hC ⟨[], [], []⟩ (told0 _ _) rfl ⟨⟩ ?_
                                                        cases q1 with
                                                        | true =>
                                                          have w6 : q2 = cutW (x16 px) := by rw [w2]; unfold lvP; rw [if_pos rfl]
                                                          (refine lwp_region hC ⟨[(6, { b := some false }), (8, { b := some true, g := some true })], [], [(1, Told_i R [(0, some 15), (1, some 16)]), (3, RIsKnown_i R j [(0, some 15), (1, some 16)]), (14, RCut_i px)]⟩ (told1 _ (by rw [hP]; exact (calls_cons (Told_s _ _) (calls_cons (RIsKnown_s _ _ _ (by omega)) (calls_cons (RCut_s _ (w5.1 rfl)) calls_nil))))) rfl ?_ ?_; rotate_left 1)
                                                          · rw [← w6]
                                                            repeat first | refine lwp_seq fun K hK => ?_ | ((with_reducible refine gA ?_); apply_assumption -exfalso -symm) | refine gB ?_ | refine gC ?_ | refine gD ?_ | refine gE ?_ | refine gF rfl ?_ | refine gG rfl ?_ | refine gH ?_ | refine gI ?_ | refine gJ ?_ | refine gK ?_ | refine gL ?_ | refine lwp_region hC ⟨[], [], []⟩ (told0 _ _) rfl ⟨⟩ ?_
                                                            (refine lwp_cond hC rfl (by first | exact ⟨⟩ | exact sd) (fun hb => ?_) (fun hb => ?_) <;> (try simp only [decide_eq_true_eq, decide_eq_false_iff_not, Bool.not_eq_true', Bool.not_eq_false', ne_eq, Decidable.not_not] at hb))
                                                            · exact absurd hb (by simp)
                                                            · clear hb
                                                              repeat first | refine lwp_seq fun K hK => ?_ | ((with_reducible refine gA ?_); apply_assumption -exfalso -symm) | refine gB ?_ | refine gC ?_ | refine gD ?_ | refine gE ?_ | refine gF rfl ?_ | refine gG rfl ?_ | refine gH ?_ | refine gI ?_ | refine gJ ?_ | refine gK ?_ | refine gL ?_ | refine lwp_region hC ⟨[], [], []⟩ (told0 _ _) rfl ⟨⟩ ?_ | refine lwp_region hC ⟨[], [], []⟩ (told0 _ _) rfl (by exact sd) ?_
                                                              refine gA ⟨j + 1, ?_, ?_, sub_intro hm [(0, some 0), (1, some 1), (2, some 2), (3, some 3), (4, some 4), (5, some 5), (6, some 6), (7, some 7), (8, some 8), (9, some 9), (15, some 15), (16, some 16), (17, some 17)] rfl ?_⟩
                                                              · omega
                                                              · omega
                                                              · exact sd
                                                          · rw [ejj, w3, w4]
                                                            exact sd
                                                        | false =>
                                                          (refine lwp_region hC ⟨[(6, { b := some false }), (8, { b := some false, g := some true }), (9, { g := some false }), (10, { g := some false }), (11, { g := some false }), (12, { g := some false }), (13, { g := some false }), (14, { g := some false }), (15, { g := some false }), (16, { g := some false })], [], [(1, Told_i R [(0, some 15), (1, some 16)]), (3, RIsKnown_i R j [(0, some 15), (1, some 16)])]⟩ (told1 _ (by rw [hP]; exact (calls_cons (Told_s _ _) (calls_cons (RIsKnown_s _ _ _ (by omega)) calls_nil)))) rfl ?_ ?_; rotate_left 1)
                                                          · repeat first | refine lwp_seq fun K hK => ?_ | ((with_reducible refine gA ?_); apply_assumption -exfalso -symm) | refine gB ?_ | refine gC ?_ | refine gD ?_ | refine gE ?_ | refine gF rfl ?_ | refine gG rfl ?_ | refine gH ?_ | refine gI ?_ | refine gJ ?_ | refine gK ?_ | refine gL ?_ | refine lwp_region hC ⟨[], [], []⟩ (told0 _ _) rfl ⟨⟩ ?_
                                                            (refine lwp_cond hC rfl (by first | exact ⟨⟩ | exact sd) (fun hb => ?_) (fun hb => ?_) <;> (try simp only [decide_eq_true_eq, decide_eq_false_iff_not, Bool.not_eq_true', Bool.not_eq_false', ne_eq, Decidable.not_not] at hb))
                                                            · exact absurd hb (by simp)
                                                            · clear hb
                                                              repeat first | refine lwp_seq fun K hK => ?_ | ((with_reducible refine gA ?_); apply_assumption -exfalso -symm) | refine gB ?_ | refine gC ?_ | refine gD ?_ | refine gE ?_ | refine gF rfl ?_ | refine gG rfl ?_ | refine gH ?_ | refine gI ?_ | refine gJ ?_ | refine gK ?_ | refine gL ?_ | refine lwp_region hC ⟨[], [], []⟩ (told0 _ _) rfl ⟨⟩ ?_ | refine lwp_region hC ⟨[], [], []⟩ (told0 _ _) rfl (by exact sd) ?_
                                                              refine gA ⟨j + 1, ?_, ?_, sub_intro hm [(0, some 0), (1, some 1), (2, some 2), (3, some 3), (4, some 4), (5, some 5), (6, some 6), (7, some 7), (8, some 8), (9, some 9), (15, some 15), (16, some 16), (17, some 17)] rfl ?_⟩
                                                              · omega
                                                              · omega
                                                              · exact sd
                                                          · rw [w3]
                                                            exact sd
                                                  · repeat first | refine lwp_seq fun K hK => ?_ | ((with_reducible refine gA ?_); apply_assumption -exfalso -symm) | refine gB ?_ | refine gC ?_ | refine gD ?_ | refine gE ?_ | refine gF rfl ?_ | refine gG rfl ?_ | refine gH ?_ | refine gI ?_ | refine gJ ?_ | refine gK ?_ | refine gL ?_ | refine lwp_region hC ⟨[], [], []⟩ (told0 _ _) rfl ⟨⟩ ?_
                                                    (refine end_intro (by first | exact .inr rfl | exact .inl rfl) [] rfl ?_)
                                                    exact ⟨rfl, trivial⟩
                                            · rw [hzy, hRn, hRf]
                                              simp [AllL, All, cd_p, cp_p, cv_p, InK]
                                              omega
                                        · have hfr := hr.fr
                                          have h35 : (cgE m s l t = 3 ∧ (frS m s l t < 0 ∨ 100000000 ≤ toS m s l t)) ∨ (cgE m s l t = 5 ∧ 4096 ≤ toS m s l t - frS m s l t) := cg_bad hr hcz
                                          rw [show rgQ m s l t = (rnN, cgE m s l t) by unfold rgQ; rw [if_neg (by rw [hpg]; decide), if_pos hcz]]
                                          repeat first | refine lwp_seq fun K hK => ?_ | ((with_reducible refine gA ?_); apply_assumption -exfalso -symm) | refine gB ?_ | refine gC ?_ | refine gD ?_ | refine gE ?_ | refine gF rfl ?_ | refine gG rfl ?_ | refine gH ?_ | refine gI ?_ | refine gJ ?_ | refine gK ?_ | refine gL ?_ | refine lwp_region hC ⟨[], [], []⟩ (told0 _ _) rfl ⟨⟩ ?_
                                          (refine lwp_cond hC rfl (by first | exact ⟨⟩ | exact sd) (fun hb => ?_) (fun hb => ?_) <;> (try simp only [decide_eq_true_eq, decide_eq_false_iff_not, Bool.not_eq_true', Bool.not_eq_false', ne_eq, Decidable.not_not] at hb))
                                          · clear hb hcz
                                            rcases h35 with ⟨e3, e4⟩ | ⟨e3, e4⟩
                                            · rw [e3]
                                              repeat first | refine lwp_seq fun K hK => ?_ | ((with_reducible refine gA ?_); apply_assumption -exfalso -symm) | refine gB ?_ | refine gC ?_ | refine gD ?_ | refine gE ?_ | refine gF rfl ?_ | refine gG rfl ?_ | refine gH ?_ | refine gI ?_ | refine gJ ?_ | refine gK ?_ | refine gL ?_ | refine lwp_region hC ⟨[], [], []⟩ (told0 _ _) rfl ⟨⟩ ?_
                                              by_cases e5 : frS m s l t < 0
                                              · have d5 : decide (frS m s l t < 0) = true := decide_eq_true e5
                                                (refine lwp_region hC ⟨[(2, { b := some true }), (5, { b := some true, g := some true }), (6, { g := some false }), (7, { g := some false }), (10, { b := some true }), (11, { g := some false }), (12, { g := some false }), (13, { g := some false }), (14, { g := some false }), (15, { g := some false }), (16, { g := some false }), (17, { g := some false }), (18, { g := some false })], [], []⟩ (told0 _ _) rfl ?_ ?_; rotate_left 1)
                                                · repeat first | refine lwp_seq fun K hK => ?_ | ((with_reducible refine gA ?_); apply_assumption -exfalso -symm) | refine gB ?_ | refine gC ?_ | refine gD ?_ | refine gE ?_ | refine gF rfl ?_ | refine gG rfl ?_ | refine gH ?_ | refine gI ?_ | refine gJ ?_ | refine gK ?_ | refine gL ?_ | refine lwp_region hC ⟨[], [], []⟩ (told0 _ _) rfl ⟨⟩ ?_
                                                  (refine end_intro (by first | exact .inr rfl | exact .inl rfl) [] rfl ?_)
                                                  exact ⟨rfl, trivial⟩
                                                · simp [AllL, All, cd_p, cp_p, cv_p, InK, *] <;> omega
                                              · have d5 : decide (frS m s l t < 0) = false := decide_eq_false e5
                                                have d6 : decide (100000000 ≤ toS m s l t) = true := decide_eq_true (by omega)
                                                (refine lwp_region hC ⟨[(2, { b := some true }), (5, { b := some false, g := some true }), (10, { b := some true }), (11, { g := some false }), (12, { g := some false }), (13, { g := some false }), (14, { g := some false }), (15, { g := some false }), (16, { g := some false }), (17, { g := some false }), (18, { g := some false })], [], []⟩ (told0 _ _) rfl ?_ ?_; rotate_left 1)
                                                · repeat first | refine lwp_seq fun K hK => ?_ | ((with_reducible refine gA ?_); apply_assumption -exfalso -symm) | refine gB ?_ | refine gC ?_ | refine gD ?_ | refine gE ?_ | refine gF rfl ?_ | refine gG rfl ?_ | refine gH ?_ | refine gI ?_ | refine gJ ?_ | refine gK ?_ | refine gL ?_ | refine lwp_region hC ⟨[], [], []⟩ (told0 _ _) rfl ⟨⟩ ?_
                                                  (refine end_intro (by first | exact .inr rfl | exact .inl rfl) [] rfl ?_)
                                                  exact ⟨rfl, trivial⟩
                                                · simp [AllL, All, cd_p, cp_p, cv_p, InK, *] <;> omega
                                            · rw [e3]
                                              have d5 : decide (4096 ≤ toS m s l t - frS m s l t) = true := decide_eq_true e4
                                              repeat first | refine lwp_seq fun K hK => ?_ | ((with_reducible refine gA ?_); apply_assumption -exfalso -symm) | refine gB ?_ | refine gC ?_ | refine gD ?_ | refine gE ?_ | refine gF rfl ?_ | refine gG rfl ?_ | refine gH ?_ | refine gI ?_ | refine gJ ?_ | refine gK ?_ | refine gL ?_ | refine lwp_region hC ⟨[], [], []⟩ (told0 _ _) rfl ⟨⟩ ?_
                                              (refine lwp_region hC ⟨[(2, { b := some false }), (3, { g := some false }), (4, { g := some false }), (5, { g := some false }), (6, { g := some false }), (7, { g := some false }), (8, { g := some false }), (10, { b := some false }), (13, { b := some true, g := some true })], [], []⟩ (told0 _ _) rfl ?_ ?_; rotate_left 1)
                                              · repeat first | refine lwp_seq fun K hK => ?_ | ((with_reducible refine gA ?_); apply_assumption -exfalso -symm) | refine gB ?_ | refine gC ?_ | refine gD ?_ | refine gE ?_ | refine gF rfl ?_ | refine gG rfl ?_ | refine gH ?_ | refine gI ?_ | refine gJ ?_ | refine gK ?_ | refine gL ?_ | refine lwp_region hC ⟨[], [], []⟩ (told0 _ _) rfl ⟨⟩ ?_
                                                (refine end_intro (by first | exact .inr rfl | exact .inl rfl) [] rfl ?_)
                                                simp [All, cd_p, d5]
                                              · simp [AllL, All, cd_p, cp_p, cv_p, InK, *] <;> omega
                                          · exact absurd hb (by simpa using hcz)
                                      · rw [show ((n : Int) - 1).toNat = n - 1 by omega] at *
                                        exact sd
                                    · exact sd
                              · exact sd
                      · simp [AllL, All, cd_p, cp_p, cv_p, *] <;> first | omega | (intro h9; simp [h9] at *)
                  · skip
                    (refine lwp_region hC ⟨[(7, { b := some false }), (12, { b := some false }), (18, { b := some false }), (24, { b := some false }), (29, { b := some false }), (35, { b := some false }), (40, { b := some false }), (45, { b := some false }), (50, { b := some true }), (51, { g := some false }), (52, { g := some false }), (53, { g := some false }), (54, { g := some false })], [], [(0, Awake_i), (4, Short_i m s [(0, some 2), (1, some 3)]), (9, RRide_i m s [(0, some 2), (1, some 3)]), (26, ShortP_i l [(0, some 4)]), (32, RPairs_i m s l [(0, some 2), (1, some 3), (2, some 4)]), (42, ShortR_i t [(0, some 5), (1, some 6)]), (47, RRun_i t [(0, some 5), (1, some 6)])]⟩ (told1 _ (by rw [hP]; exact (calls_cons (Awake_s) (calls_cons (Short_s _ _ _ hmm hss) (calls_cons (RRide_s _ _ _ hm' hs' km ks) (calls_cons (ShortP_s _ _ hll) (calls_cons (RPairs_s _ _ _ _ hm' hs' hl') (calls_cons (ShortR_s _ _) (calls_cons (RRun_s _ _ (by omega) (by omega) (by omega)) calls_nil))))))))) rfl ?_ ?_; rotate_left 1)
                    · repeat first | refine lwp_seq fun K hK => ?_ | ((with_reducible refine gA ?_); apply_assumption -exfalso -symm) | refine gB ?_ | refine gC ?_ | refine gD ?_ | refine gE ?_ | refine gF rfl ?_ | refine gG rfl ?_ | refine gH ?_ | refine gI ?_ | refine gJ ?_ | refine gK ?_ | refine gL ?_ | refine lwp_region hC ⟨[], [], []⟩ (told0 _ _) rfl ⟨⟩ ?_
                      (refine lwp_cond hC rfl (by first | exact ⟨⟩ | exact sd) (fun hb => ?_) (fun hb => ?_) <;> (try simp only [decide_eq_true_eq, decide_eq_false_iff_not, Bool.not_eq_true', Bool.not_eq_false', ne_eq, Decidable.not_not] at hb))
                      · clear hb
                        repeat first | refine lwp_seq fun K hK => ?_ | ((with_reducible refine gA ?_); apply_assumption -exfalso -symm) | refine gB ?_ | refine gC ?_ | refine gD ?_ | refine gE ?_ | refine gF rfl ?_ | refine gG rfl ?_ | refine gH ?_ | refine gI ?_ | refine gJ ?_ | refine gK ?_ | refine gL ?_ | refine lwp_region hC ⟨[], [], []⟩ (told0 _ _) rfl ⟨⟩ ?_
                        (refine lwp_region hC ⟨[], [], [(0, Awake_i)]⟩ (told1 _ (by rw [hP]; exact (calls_cons (Awake_s) calls_nil))) rfl ?_ ?_; rotate_left 1)
                        · repeat first | refine lwp_seq fun K hK => ?_ | ((with_reducible refine gA ?_); apply_assumption -exfalso -symm) | refine gB ?_ | refine gC ?_ | refine gD ?_ | refine gE ?_ | refine gF rfl ?_ | refine gG rfl ?_ | refine gH ?_ | refine gI ?_ | refine gJ ?_ | refine gK ?_ | refine gL ?_ | refine lwp_region hC ⟨[], [], []⟩ (told0 _ _) rfl ⟨⟩ ?_
                          (refine end_intro (by first | exact .inr rfl | exact .inl rfl) [] rfl ?_)
                          exact ⟨rfl, trivial⟩
                        · exact sd
                      · exact absurd hb (by simp)
                    · simp [AllL, All, cd_p, cp_p, cv_p, *] <;> first | omega | (intro h9; simp [h9] at *)
                · have hT' : shortR t = false := by simpa using hT
                  (refine lwp_region hC ⟨[(7, { b := some false }), (12, { b := some false }), (18, { b := some false }), (24, { b := some false }), (29, { b := some false }), (35, { b := some false }), (40, { b := some false }), (45, { b := some true }), (46, { g := some false }), (47, { g := some false }), (48, { g := some false }), (51, { g := some false }), (52, { g := some false }), (53, { g := some false }), (54, { g := some false })], [], [(0, Awake_i), (4, Short_i m s [(0, some 2), (1, some 3)]), (9, RRide_i m s [(0, some 2), (1, some 3)]), (26, ShortP_i l [(0, some 4)]), (32, RPairs_i m s l [(0, some 2), (1, some 3), (2, some 4)]), (42, ShortR_i t [(0, some 5), (1, some 6)])]⟩ (told1 _ (by rw [hP]; exact (calls_cons (Awake_s) (calls_cons (Short_s _ _ _ hmm hss) (calls_cons (RRide_s _ _ _ hm' hs' km ks) (calls_cons (ShortP_s _ _ hll) (calls_cons (RPairs_s _ _ _ _ hm' hs' hl') (calls_cons (ShortR_s _ _) calls_nil)))))))) rfl ?_ ?_; rotate_left 1)
                  · repeat first | refine lwp_seq fun K hK => ?_ | ((with_reducible refine gA ?_); apply_assumption -exfalso -symm) | refine gB ?_ | refine gC ?_ | refine gD ?_ | refine gE ?_ | refine gF rfl ?_ | refine gG rfl ?_ | refine gH ?_ | refine gI ?_ | refine gJ ?_ | refine gK ?_ | refine gL ?_ | refine lwp_region hC ⟨[], [], []⟩ (told0 _ _) rfl ⟨⟩ ?_
                    (refine lwp_cond hC rfl (by first | exact ⟨⟩ | exact sd) (fun hb => ?_) (fun hb => ?_) <;> (try simp only [decide_eq_true_eq, decide_eq_false_iff_not, Bool.not_eq_true', Bool.not_eq_false', ne_eq, Decidable.not_not] at hb))
                    · clear hb
                      repeat first | refine lwp_seq fun K hK => ?_ | ((with_reducible refine gA ?_); apply_assumption -exfalso -symm) | refine gB ?_ | refine gC ?_ | refine gD ?_ | refine gE ?_ | refine gF rfl ?_ | refine gG rfl ?_ | refine gH ?_ | refine gI ?_ | refine gJ ?_ | refine gK ?_ | refine gL ?_ | refine lwp_region hC ⟨[], [], []⟩ (told0 _ _) rfl ⟨⟩ ?_
                      (refine lwp_region hC ⟨[], [], [(0, Awake_i)]⟩ (told1 _ (by rw [hP]; exact (calls_cons (Awake_s) calls_nil))) rfl ?_ ?_; rotate_left 1)
                      · repeat first | refine lwp_seq fun K hK => ?_ | ((with_reducible refine gA ?_); apply_assumption -exfalso -symm) | refine gB ?_ | refine gC ?_ | refine gD ?_ | refine gE ?_ | refine gF rfl ?_ | refine gG rfl ?_ | refine gH ?_ | refine gI ?_ | refine gJ ?_ | refine gK ?_ | refine gL ?_ | refine lwp_region hC ⟨[], [], []⟩ (told0 _ _) rfl ⟨⟩ ?_
                        (refine end_intro (by first | exact .inr rfl | exact .inl rfl) [] rfl ?_)
                        exact ⟨rfl, trivial⟩
                      · exact sd
                    · exact absurd hb (by simp)
                  · simp [AllL, All, cd_p, cp_p, cv_p, *] <;> first | omega | (intro h9; simp [h9] at *)
            · skip
              (refine lwp_region hC ⟨[(7, { b := some false }), (12, { b := some false }), (18, { b := some false }), (24, { b := some false }), (29, { b := some false }), (35, { b := some true }), (36, { g := some false }), (37, { g := some false }), (38, { g := some false }), (41, { g := some false }), (42, { g := some false }), (43, { g := some false }), (46, { g := some false }), (47, { g := some false }), (48, { g := some false }), (51, { g := some false }), (52, { g := some false }), (53, { g := some false }), (54, { g := some false })], [], [(0, Awake_i), (4, Short_i m s [(0, some 2), (1, some 3)]), (9, RRide_i m s [(0, some 2), (1, some 3)]), (26, ShortP_i l [(0, some 4)]), (32, RPairs_i m s l [(0, some 2), (1, some 3), (2, some 4)])]⟩ (told1 _ (by rw [hP]; exact (calls_cons (Awake_s) (calls_cons (Short_s _ _ _ hmm hss) (calls_cons (RRide_s _ _ _ hm' hs' km ks) (calls_cons (ShortP_s _ _ hll) (calls_cons (RPairs_s _ _ _ _ hm' hs' hl') calls_nil))))))) rfl ?_ ?_; rotate_left 1)
              · repeat first | refine lwp_seq fun K hK => ?_ | ((with_reducible refine gA ?_); apply_assumption -exfalso -symm) | refine gB ?_ | refine gC ?_ | refine gD ?_ | refine gE ?_ | refine gF rfl ?_ | refine gG rfl ?_ | refine gH ?_ | refine gI ?_ | refine gJ ?_ | refine gK ?_ | refine gL ?_ | refine lwp_region hC ⟨[], [], []⟩ (told0 _ _) rfl ⟨⟩ ?_
                (refine lwp_cond hC rfl (by first | exact ⟨⟩ | exact sd) (fun hb => ?_) (fun hb => ?_) <;> (try simp only [decide_eq_true_eq, decide_eq_false_iff_not, Bool.not_eq_true', Bool.not_eq_false', ne_eq, Decidable.not_not] at hb))
                · clear hb
                  repeat first | refine lwp_seq fun K hK => ?_ | ((with_reducible refine gA ?_); apply_assumption -exfalso -symm) | refine gB ?_ | refine gC ?_ | refine gD ?_ | refine gE ?_ | refine gF rfl ?_ | refine gG rfl ?_ | refine gH ?_ | refine gI ?_ | refine gJ ?_ | refine gK ?_ | refine gL ?_ | refine lwp_region hC ⟨[], [], []⟩ (told0 _ _) rfl ⟨⟩ ?_
                  (refine lwp_region hC ⟨[], [], [(0, Awake_i)]⟩ (told1 _ (by rw [hP]; exact (calls_cons (Awake_s) calls_nil))) rfl ?_ ?_; rotate_left 1)
                  · repeat first | refine lwp_seq fun K hK => ?_ | ((with_reducible refine gA ?_); apply_assumption -exfalso -symm) | refine gB ?_ | refine gC ?_ | refine gD ?_ | refine gE ?_ | refine gF rfl ?_ | refine gG rfl ?_ | refine gH ?_ | refine gI ?_ | refine gJ ?_ | refine gK ?_ | refine gL ?_ | refine lwp_region hC ⟨[], [], []⟩ (told0 _ _) rfl ⟨⟩ ?_
                    (refine end_intro (by first | exact .inr rfl | exact .inl rfl) [] rfl ?_)
                    exact ⟨rfl, trivial⟩
                  · exact sd
                · exact absurd hb (by simp)
              · simp [AllL, All, cd_p, cp_p, cv_p, *] <;> first | omega | (intro h9; simp [h9] at *)
          · have hQ' : shortPS l = false := by simpa using hQ
            (refine lwp_region hC ⟨[(7, { b := some false }), (12, { b := some false }), (18, { b := some false }), (24, { b := some false }), (29, { b := some true }), (30, { g := some false }), (31, { g := some false }), (32, { g := some false }), (33, { g := some false }), (36, { g := some false }), (37, { g := some false }), (38, { g := some false }), (41, { g := some false }), (42, { g := some false }), (43, { g := some false }), (46, { g := some false }), (47, { g := some false }), (48, { g := some false }), (51, { g := some false }), (52, { g := some false }), (53, { g := some false }), (54, { g := some false })], [], [(0, Awake_i), (4, Short_i m s [(0, some 2), (1, some 3)]), (9, RRide_i m s [(0, some 2), (1, some 3)]), (26, ShortP_i l [(0, some 4)])]⟩ (told1 _ (by rw [hP]; exact (calls_cons (Awake_s) (calls_cons (Short_s _ _ _ hmm hss) (calls_cons (RRide_s _ _ _ hm' hs' km ks) (calls_cons (ShortP_s _ _ hll) calls_nil)))))) rfl ?_ ?_; rotate_left 1)
            · repeat first | refine lwp_seq fun K hK => ?_ | ((with_reducible refine gA ?_); apply_assumption -exfalso -symm) | refine gB ?_ | refine gC ?_ | refine gD ?_ | refine gE ?_ | refine gF rfl ?_ | refine gG rfl ?_ | refine gH ?_ | refine gI ?_ | refine gJ ?_ | refine gK ?_ | refine gL ?_ | refine lwp_region hC ⟨[], [], []⟩ (told0 _ _) rfl ⟨⟩ ?_
              (refine lwp_cond hC rfl (by first | exact ⟨⟩ | exact sd) (fun hb => ?_) (fun hb => ?_) <;> (try simp only [decide_eq_true_eq, decide_eq_false_iff_not, Bool.not_eq_true', Bool.not_eq_false', ne_eq, Decidable.not_not] at hb))
              · clear hb
                repeat first | refine lwp_seq fun K hK => ?_ | ((with_reducible refine gA ?_); apply_assumption -exfalso -symm) | refine gB ?_ | refine gC ?_ | refine gD ?_ | refine gE ?_ | refine gF rfl ?_ | refine gG rfl ?_ | refine gH ?_ | refine gI ?_ | refine gJ ?_ | refine gK ?_ | refine gL ?_ | refine lwp_region hC ⟨[], [], []⟩ (told0 _ _) rfl ⟨⟩ ?_
                (refine lwp_region hC ⟨[], [], [(0, Awake_i)]⟩ (told1 _ (by rw [hP]; exact (calls_cons (Awake_s) calls_nil))) rfl ?_ ?_; rotate_left 1)
                · repeat first | refine lwp_seq fun K hK => ?_ | ((with_reducible refine gA ?_); apply_assumption -exfalso -symm) | refine gB ?_ | refine gC ?_ | refine gD ?_ | refine gE ?_ | refine gF rfl ?_ | refine gG rfl ?_ | refine gH ?_ | refine gI ?_ | refine gJ ?_ | refine gK ?_ | refine gL ?_ | refine lwp_region hC ⟨[], [], []⟩ (told0 _ _) rfl ⟨⟩ ?_
                  (refine end_intro (by first | exact .inr rfl | exact .inl rfl) [] rfl ?_)
                  exact ⟨rfl, trivial⟩
                · exact sd
              · exact absurd hb (by simp)
            · simp [AllL, All, cd_p, cp_p, cv_p, *] <;> first | omega | (intro h9; simp [h9] at *)
    · skip
      (refine lwp_region hC ⟨[(7, { b := some false }), (12, { b := some true }), (13, { g := some false }), (14, { g := some false }), (15, { g := some false }), (16, { g := some false }), (19, { g := some false }), (20, { g := some false }), (21, { g := some false }), (22, { g := some false }), (25, { g := some false }), (26, { g := some false }), (27, { g := some false }), (30, { g := some false }), (31, { g := some false }), (32, { g := some false }), (33, { g := some false }), (36, { g := some false }), (37, { g := some false }), (38, { g := some false }), (41, { g := some false }), (42, { g := some false }), (43, { g := some false }), (46, { g := some false }), (47, { g := some false }), (48, { g := some false }), (51, { g := some false }), (52, { g := some false }), (53, { g := some false }), (54, { g := some false })], [], [(0, Awake_i), (4, Short_i m s [(0, some 2), (1, some 3)]), (9, RRide_i m s [(0, some 2), (1, some 3)])]⟩ (told1 _ (by rw [hP]; exact (calls_cons (Awake_s) (calls_cons (Short_s _ _ _ hmm hss) (calls_cons (RRide_s _ _ _ hm' hs' km ks) calls_nil))))) rfl ?_ ?_; rotate_left 1)
      · repeat first | refine lwp_seq fun K hK => ?_ | ((with_reducible refine gA ?_); apply_assumption -exfalso -symm) | refine gB ?_ | refine gC ?_ | refine gD ?_ | refine gE ?_ | refine gF rfl ?_ | refine gG rfl ?_ | refine gH ?_ | refine gI ?_ | refine gJ ?_ | refine gK ?_ | refine gL ?_ | refine lwp_region hC ⟨[], [], []⟩ (told0 _ _) rfl ⟨⟩ ?_
        (refine lwp_cond hC rfl (by first | exact ⟨⟩ | exact sd) (fun hb => ?_) (fun hb => ?_) <;> (try simp only [decide_eq_true_eq, decide_eq_false_iff_not, Bool.not_eq_true', Bool.not_eq_false', ne_eq, Decidable.not_not] at hb))
        · clear hb
          repeat first | refine lwp_seq fun K hK => ?_ | ((with_reducible refine gA ?_); apply_assumption -exfalso -symm) | refine gB ?_ | refine gC ?_ | refine gD ?_ | refine gE ?_ | refine gF rfl ?_ | refine gG rfl ?_ | refine gH ?_ | refine gI ?_ | refine gJ ?_ | refine gK ?_ | refine gL ?_ | refine lwp_region hC ⟨[], [], []⟩ (told0 _ _) rfl ⟨⟩ ?_
          (refine lwp_region hC ⟨[], [], [(0, Awake_i)]⟩ (told1 _ (by rw [hP]; exact (calls_cons (Awake_s) calls_nil))) rfl ?_ ?_; rotate_left 1)
          · repeat first | refine lwp_seq fun K hK => ?_ | ((with_reducible refine gA ?_); apply_assumption -exfalso -symm) | refine gB ?_ | refine gC ?_ | refine gD ?_ | refine gE ?_ | refine gF rfl ?_ | refine gG rfl ?_ | refine gH ?_ | refine gI ?_ | refine gJ ?_ | refine gK ?_ | refine gL ?_ | refine lwp_region hC ⟨[], [], []⟩ (told0 _ _) rfl ⟨⟩ ?_
            (refine end_intro (by first | exact .inr rfl | exact .inl rfl) [] rfl ?_)
            exact ⟨rfl, trivial⟩
          · exact sd
        · exact absurd hb (by simp)
      · simp [AllL, All, cd_p, cp_p, cv_p, *] <;> first | omega | (intro h9; simp [h9] at *)
  · have hS' : shortS m s = false := by simpa using hS
    (refine lwp_region hC ⟨[(7, { b := some true }), (8, { g := some false }), (9, { g := some false }), (10, { g := some false }), (13, { g := some false }), (14, { g := some false }), (15, { g := some false }), (16, { g := some false }), (19, { g := some false }), (20, { g := some false }), (21, { g := some false }), (22, { g := some false }), (25, { g := some false }), (26, { g := some false }), (27, { g := some false }), (30, { g := some false }), (31, { g := some false }), (32, { g := some false }), (33, { g := some false }), (36, { g := some false }), (37, { g := some false }), (38, { g := some false }), (41, { g := some false }), (42, { g := some false }), (43, { g := some false }), (46, { g := some false }), (47, { g := some false }), (48, { g := some false }), (51, { g := some false }), (52, { g := some false }), (53, { g := some false }), (54, { g := some false })], [], [(0, Awake_i), (4, Short_i m s [(0, some 2), (1, some 3)])]⟩ (told1 _ (by rw [hP]; exact (calls_cons (Awake_s) (calls_cons (Short_s _ _ _ hmm hss) calls_nil)))) rfl ?_ ?_; rotate_left 1)
    · repeat first | refine lwp_seq fun K hK => ?_ | ((with_reducible refine gA ?_); apply_assumption -exfalso -symm) | refine gB ?_ | refine gC ?_ | refine gD ?_ | refine gE ?_ | refine gF rfl ?_ | refine gG rfl ?_ | refine gH ?_ | refine gI ?_ | refine gJ ?_ | refine gK ?_ | refine gL ?_ | refine lwp_region hC ⟨[], [], []⟩ (told0 _ _) rfl ⟨⟩ ?_
      (refine lwp_cond hC rfl (by first | exact ⟨⟩ | exact sd) (fun hb => ?_) (fun hb => ?_) <;> (try simp only [decide_eq_true_eq, decide_eq_false_iff_not, Bool.not_eq_true', Bool.not_eq_false', ne_eq, Decidable.not_not] at hb))
      · clear hb
        repeat first | refine lwp_seq fun K hK => ?_ | ((with_reducible refine gA ?_); apply_assumption -exfalso -symm) | refine gB ?_ | refine gC ?_ | refine gD ?_ | refine gE ?_ | refine gF rfl ?_ | refine gG rfl ?_ | refine gH ?_ | refine gI ?_ | refine gJ ?_ | refine gK ?_ | refine gL ?_ | refine lwp_region hC ⟨[], [], []⟩ (told0 _ _) rfl ⟨⟩ ?_
        (refine lwp_region hC ⟨[], [], [(0, Awake_i)]⟩ (told1 _ (by rw [hP]; exact (calls_cons (Awake_s) calls_nil))) rfl ?_ ?_; rotate_left 1)
        · repeat first | refine lwp_seq fun K hK => ?_ | ((with_reducible refine gA ?_); apply_assumption -exfalso -symm) | refine gB ?_ | refine gC ?_ | refine gD ?_ | refine gE ?_ | refine gF rfl ?_ | refine gG rfl ?_ | refine gH ?_ | refine gI ?_ | refine gJ ?_ | refine gK ?_ | refine gL ?_ | refine lwp_region hC ⟨[], [], []⟩ (told0 _ _) rfl ⟨⟩ ?_
          (refine end_intro (by first | exact .inr rfl | exact .inl rfl) [] rfl ?_)
          exact ⟨rfl, trivial⟩
        · exact sd
      · exact absurd hb (by simp)
    · simp [AllL, All, cd_p, cp_p, cv_p, *] <;> first | omega | (intro h9; simp [h9] at *)

end Go.Proofs.YtoopgdchiljmiaaGreatDoor
