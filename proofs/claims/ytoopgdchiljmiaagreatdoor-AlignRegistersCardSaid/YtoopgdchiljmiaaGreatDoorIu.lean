/- AlignRegisters: the law gives true. -/
import Derived.Test.YtoopgdchiljmiaaGreatDoorIt
import Derived.Test.YtoopgdchiljmiaaGreatDoorHw
import Derived.Test.YtoopgdchiljmiaaGreatDoorDy
set_option linter.unusedVariables false
set_option linter.unusedSimpArgs false
namespace Go.Proofs.YtoopgdchiljmiaaGreatDoor
open Go.RowKit Go.Sym

theorem rgQ_bad {m s : List Th} {l : List (Int × Int)} {t : Rn} (h : ¬ firstS [checkPairsS m s l, runE t] = 0) : rgQ m s l t = (rnN, firstS [checkPairsS m s l, runE t]) := by
  have e : pgE m s l t = firstS [checkPairsS m s l, runE t] := by
    unfold pgE
    simp only [firstS] at h ⊢
    by_cases h1 : checkPairsS m s l = 0 <;> by_cases h2 : runE t = 0 <;> simp_all
  unfold rgQ
  rw [e, if_pos h]
theorem rgQ_cg {m s : List Th} {l : List (Int × Int)} {t : Rn} (h1 : checkPairsS m s l = 0) (h2 : runE t = 0) : rgQ m s l t = if cgS m s l t ≠ 0 then (rnN, cgS m s l t) else (mdR t.name (frS m s l t) (regA m s l t t.smp.length), 0) := by
  have e : pgE m s l t = if l.length = 0 then 12 else if t.smp.length = 0 then 16 else 0 := by
    unfold pgE
    simp only [firstS, h1, h2, if_true]
    by_cases c1 : l.length = 0
    · rw [decide_eq_true (show (l.length : Int) = 0 by omega), if_pos c1]; rfl
    · rw [decide_eq_false (show ¬ (l.length : Int) = 0 by omega), if_neg c1]
      by_cases c2 : t.smp.length = 0
      · rw [decide_eq_true (show (t.smp.length : Int) = 0 by omega), if_pos c2]; rfl
      · rw [decide_eq_false (show ¬ (t.smp.length : Int) = 0 by omega), if_neg c2]; rfl
  unfold rgQ cgS
  rw [e]
  by_cases c1 : l.length = 0
  · rw [if_pos c1, if_pos c1, if_pos (by decide), if_pos (by decide)]
  · rw [if_neg c1, if_neg c1]
    by_cases c2 : t.smp.length = 0
    · rw [if_pos c2, if_pos c2, if_pos (by decide), if_pos (by decide)]
    · rw [if_neg c2, if_neg c2, if_neg (by decide)]
theorem cgS_zero {m s : List Th} {l : List (Int × Int)} {t : Rn} (hg : Good m s l) (hv : VR t) (he : t.first + (t.smp.length : Int) ≤ 100000000) (h : cgS m s l t = 0) : RgOk m s l t ∧ cgE m s l t = 0 := by
  unfold cgS at h
  split at h
  · cases h
  · split at h
    · cases h
    · exact ⟨⟨hg, by omega, hv, by omega, he⟩, h⟩
theorem reg_same {m s : List Th} {l : List (Int × Int)} {t : Rn} (h : RgOk m s l t) : SameN ((regA m s l t t.smp.length).map (·.1)) ((regA m s l t t.smp.length).map bkP) := by
  have hok := rgA_ok h.v.p (gIx m s l t) (nIx m s l t) t.smp.length (Nat.le_refl _)
  rw [show rgA t (gIx m s l t) (nIx m s l t) t.smp.length = regA m s l t t.smp.length from rfl] at hok
  generalize regA m s l t t.smp.length = A at hok ⊢
  refine ⟨by rw [List.length_map, List.length_map], fun k hk => ?_⟩
  rw [List.length_map] at hk
  rw [map_at (fun x : Nat × Bool => x.1) (0, false) 0 A k hk, map_at bkP (0, false) 0 A k hk, List.getD_eq_getElem?_getD, List.getElem?_eq_getElem hk]
  exact bkP_eq (hok _ (List.getElem_mem hk))
def LawRg_i (m s : List Th) (l : List (Int × Int)) (t : Rn) : Inst := { f := 5, gl := lawG, hin := [(0, pwC), (1, fmC), (2, .ro m.length 2 (thC m)), (3, .ro s.length 2 (thC s)), (4, .ro l.length 2 (prC l)), (5, .ro t.smp.length 1 (flC t.smp)), (6, .ro t.holes.length 2 (spC t.holes))], args := [.agg [.sl 2 m.length, .sl 3 s.length], .sl 4 l.length, rnA 5 6 t], hout := [], ret := bl true, σ := [] }
set_option maxRecDepth 20000 in
set_option maxHeartbeats 8000000 in
theorem LawRg_s (m s : List Th) (l : List (Int × Int)) (t : Rn) (hmm : m.length ≤ 9223372036854775807) (hss : s.length ≤ 9223372036854775807) (hll : l.length ≤ 9223372036854775807) : (LawRg_i m s l t).ok Tryz.prog := by
  unfold LawRg_i Inst.ok; dsimp only; refine spec_of_body (tys := tys) 7 Tryz.func5 (by kernel_rfl) rfl tys_ok rfl (Nat.le_of_ble_eq_true rfl) (fun g i h => ?_) fun F hP hm hC hrd => ?_
  · simp only [List.mem_cons, List.not_mem_nil, or_false, Prod.mk.injEq] at h
    omega
  conv => whnf
  repeat first | refine lwp_seq fun K hK => ?_ | ((with_reducible refine gA ?_); apply_assumption -exfalso -symm) | refine gB ?_ | refine gC ?_ | refine gD ?_ | refine gE ?_ | refine gF rfl ?_ | refine gG rfl ?_ | refine gH ?_ | refine gI ?_ | refine gJ ?_ | refine gK ?_ | refine gL ?_ | refine lwp_region hC ⟨[], [], []⟩ (told0 _ _) rfl ⟨⟩ ?_
  by_cases hS : shortS m s = true
  · by_cases hQ : shortPS l = true
    · by_cases hT : shortR t = true
      · obtain ⟨nt, lt, ht⟩ := shortR_ok hT
        have hkinds : kindsOk m ∧ kindsOk s := by
          unfold shortS at hS
          simp only [Bool.and_eq_true] at hS
          exact ⟨kinds_of hS.1, kinds_of hS.2.1⟩
        obtain ⟨km, ks⟩ := hkinds
        have hlens : m.length ≤ 1000000 ∧ s.length ≤ 1000000 := by
          unfold shortS at hS
          simp only [Bool.and_eq_true] at hS
          have h3 := hS.2.2
          unfold lenS at h3
          by_cases q1 : (m.length : Int) ≤ 8 <;> by_cases q2 : (m.length : Int) = 65 <;> by_cases q3 : (s.length : Int) ≤ 8 <;> by_cases q4 : (s.length : Int) = 65 <;> simp [q1, q2, q3, q4] at h3 <;> omega
        obtain ⟨hm', hs'⟩ := hlens
        have hl' : l.length ≤ 1000000 := by
          unfold shortPS at hQ
          by_cases q1 : (l.length : Int) ≤ 9 <;> by_cases q2 : (l.length : Int) = 65 <;> simp [q1, q2] at hQ <;> omega
        (refine lwp_region hC ⟨[(7, { b := some false }), (12, { b := some false })], [], [(0, Awake_i), (4, Short_i m s [(0, some 2), (1, some 3)]), (9, ShortP_i l [(0, some 4)]), (14, ShortR_i t [(0, some 5), (1, some 6)])]⟩ (told1 _ (by rw [hP]; exact (calls_cons (Awake_s) (calls_cons (Short_s _ _ _ hmm hss) (calls_cons (ShortP_s _ _ hll) (calls_cons (ShortR_s _ _) calls_nil)))))) rfl ?_ ?_; rotate_left 1)
        · rw [hS, hQ, hT]
          repeat first | refine lwp_seq fun K hK => ?_ | ((with_reducible refine gA ?_); apply_assumption -exfalso -symm) | refine gB ?_ | refine gC ?_ | refine gD ?_ | refine gE ?_ | refine gF rfl ?_ | refine gG rfl ?_ | refine gH ?_ | refine gI ?_ | refine gJ ?_ | refine gK ?_ | refine gL ?_ | refine lwp_region hC ⟨[], [], []⟩ (told0 _ _) rfl ⟨⟩ ?_
          (refine lwp_cond hC rfl (by first | exact ⟨⟩ | exact sd) (fun hb => ?_) (fun hb => ?_) <;> (try simp only [decide_eq_true_eq, decide_eq_false_iff_not, Bool.not_eq_true', Bool.not_eq_false', ne_eq, Decidable.not_not] at hb))
          · exact absurd hb (by simp)
          · clear hb
            repeat first | refine lwp_seq fun K hK => ?_ | ((with_reducible refine gA ?_); apply_assumption -exfalso -symm) | refine gB ?_ | refine gC ?_ | refine gD ?_ | refine gE ?_ | refine gF rfl ?_ | refine gG rfl ?_ | refine gH ?_ | refine gI ?_ | refine gJ ?_ | refine gK ?_ | refine gL ?_ | refine lwp_region hC ⟨[], [], []⟩ (told0 _ _) rfl ⟨⟩ ?_
            (refine lwp_drawn2 hC (by rw [hP]; exact mixed) ⟨[], [], [(1, Own_i m s [(0, some 2), (1, some 3)]), (3, Given_i l [(0, some 4)]), (5, LRun_i t [(0, some 5), (1, some 6)]), (6, PReg_i m s l t [(0, some 9), (1, some 10), (2, some 11), (3, some 12), (4, some 13)])]⟩ (told1 _ (by rw [hP]; exact (calls_cons (Own_s _ _ _ hm' hs') (calls_cons (Given_s _ _ hl') (calls_cons (LRun_s _ _ (by omega) (by omega)) (calls_cons (PReg_s _ _ _ _ _ hm' hs' hl' (by omega) (by omega)) calls_nil)))))) [0, 1, 0, 7, 0, 31, 63, 127, 255, 255, 0, 1535, 4095] 11 512 rfl ?_ ?_; rotate_left 1)
            · repeat first | refine lwp_seq fun K hK => ?_ | ((with_reducible refine gA ?_); apply_assumption -exfalso -symm) | refine gB ?_ | refine gC ?_ | refine gD ?_ | refine gE ?_ | refine gF rfl ?_ | refine gG rfl ?_ | refine gH ?_ | refine gI ?_ | refine gJ ?_ | refine gK ?_ | refine gL ?_ | refine lwp_region hC ⟨[], [], []⟩ (told0 _ _) rfl ⟨⟩ ?_
              (refine lwp_drawn hC (by rw [hP]; exact mixed) ⟨[], [], [(2, LPairs_i m s l [(0, some 2), (1, some 3), (2, some 4)]), (4, RRun_i t [(0, some 5), (1, some 6)]), (6, First_i [lcheckS m s l, runE t] [(0, some 18)])]⟩ (told1 _ (by rw [hP]; exact (calls_cons (LPairs_s _ _ _ _ hm' hs' hl' km ks) (calls_cons (RRun_s _ _ (by omega) (by omega) (by omega)) (calls_cons (First_s _ _ (by simp)) calls_nil))))) [0, 0, 3, 0, 15, 31, 63, 127] 4 rfl ?_ ?_; rotate_left 1)
              · rw [lcheck_eq]
                repeat first | refine lwp_seq fun K hK => ?_ | ((with_reducible refine gA ?_); apply_assumption -exfalso -symm) | refine gB ?_ | refine gC ?_ | refine gD ?_ | refine gE ?_ | refine gF rfl ?_ | refine gG rfl ?_ | refine gH ?_ | refine gI ?_ | refine gJ ?_ | refine gK ?_ | refine gL ?_ | refine lwp_region hC ⟨[], [], []⟩ (told0 _ _) rfl ⟨⟩ ?_
                (refine lwp_cond hC rfl (by first | exact ⟨⟩ | exact sd) (fun hb => ?_) (fun hb => ?_) <;> (try simp only [decide_eq_true_eq, decide_eq_false_iff_not, Bool.not_eq_true', Bool.not_eq_false', ne_eq, Decidable.not_not] at hb))
                · have hz : firstS [checkPairsS m s l, runE t] = 0 := hb
                  clear hb
                  have hz2 := hz
                  rw [firstS_cons, firstS_cons] at hz2
                  obtain ⟨y1, y2, _⟩ := hz2
                  obtain ⟨vt, vt2⟩ := vr_of y2 (by omega)
                  rw [rgQ_cg y1 y2]
                  repeat first | refine lwp_seq fun K hK => ?_ | ((with_reducible refine gA ?_); apply_assumption -exfalso -symm) | refine gB ?_ | refine gC ?_ | refine gD ?_ | refine gE ?_ | refine gF rfl ?_ | refine gG rfl ?_ | refine gH ?_ | refine gI ?_ | refine gJ ?_ | refine gK ?_ | refine gL ?_ | refine lwp_region hC ⟨[], [], []⟩ (told0 _ _) rfl ⟨⟩ ?_
                  (refine lwp_region hC ⟨[], [], [(3, RCG_i m s l t [(0, some 2), (1, some 3), (2, some 4), (3, some 5), (4, some 6)])]⟩ (told1 _ (by rw [hP]; exact (calls_cons (RCG_s _ _ _ _ _ (good_of y1) vt vt2) calls_nil))) rfl ?_ ?_; rotate_left 1)
                  · by_cases hc : cgS m s l t = 0
                    · obtain ⟨hr, hcz⟩ := cgS_zero (good_of y1) vt vt2 hc
                      rw [if_neg (by rw [hc]; decide), hc]
                      repeat first | refine lwp_seq fun K hK => ?_ | ((with_reducible refine gA ?_); apply_assumption -exfalso -symm) | refine gB ?_ | refine gC ?_ | refine gD ?_ | refine gE ?_ | refine gF rfl ?_ | refine gG rfl ?_ | refine gH ?_ | refine gI ?_ | refine gJ ?_ | refine gK ?_ | refine gL ?_ | refine lwp_region hC ⟨[], [], []⟩ (told0 _ _) rfl ⟨⟩ ?_
                      (refine lwp_cond hC rfl (by first | exact ⟨⟩ | exact sd) (fun hb => ?_) (fun hb => ?_) <;> (try simp only [decide_eq_true_eq, decide_eq_false_iff_not, Bool.not_eq_true', Bool.not_eq_false', ne_eq, Decidable.not_not] at hb))
                      · clear hb
                        have hsn := reg_same hr
                        have hA : (regA m s l t t.smp.length).length ≤ 1000000 := by
                          have := cg_zero hcz
                          unfold regA
                          rw [rgA_len]
                          unfold nIx
                          omega
                        have hH := mdH_len ((regA m s l t t.smp.length).map (·.2)) (regA m s l t t.smp.length).length
                        repeat first | refine lwp_seq fun K hK => ?_ | ((with_reducible refine gA ?_); apply_assumption -exfalso -symm) | refine gB ?_ | refine gC ?_ | refine gD ?_ | refine gE ?_ | refine gF rfl ?_ | refine gG rfl ?_ | refine gH ?_ | refine gI ?_ | refine gJ ?_ | refine gK ?_ | refine gL ?_ | refine lwp_region hC ⟨[], [], []⟩ (told0 _ _) rfl ⟨⟩ ?_
                        (refine lwp_region hC ⟨[], [], [(3, RReg_i m s l t [(0, some 2), (1, some 3), (2, some 4), (3, some 5), (4, some 6)])]⟩ (told1 _ (by rw [hP]; exact (calls_cons (RReg_s _ _ _ _ _ hr hcz) calls_nil))) rfl ?_ ?_; rotate_left 1)
                        · generalize regA m s l t t.smp.length = A at *
                          repeat first | refine lwp_seq fun K hK => ?_ | ((with_reducible refine gA ?_); apply_assumption -exfalso -symm) | refine gB ?_ | refine gC ?_ | refine gD ?_ | refine gE ?_ | refine gF rfl ?_ | refine gG rfl ?_ | refine gH ?_ | refine gI ?_ | refine gJ ?_ | refine gK ?_ | refine gL ?_ | refine lwp_region hC ⟨[], [], []⟩ (told0 _ _) rfl ⟨⟩ ?_
                          (refine lwp_region hC ⟨[], [], [(4, Placed2_i (mdR t.name (frS m s l t) A) (A.map bkP) 0 [(0, some 14), (1, some 15), (2, some 20), (3, some 21)])]⟩ (told1 _ (by rw [hP]; exact (calls_cons (Placed2_s _ _ _ _ hsn (by show (A.map _).length ≤ _; rw [List.length_map]; exact hA) (by show (mdH _ _).length ≤ _; omega)) calls_nil))) rfl ?_ ?_; rotate_left 1)
                          · repeat first | refine lwp_seq fun K hK => ?_ | ((with_reducible refine gA ?_); apply_assumption -exfalso -symm) | refine gB ?_ | refine gC ?_ | refine gD ?_ | refine gE ?_ | refine gF rfl ?_ | refine gG rfl ?_ | refine gH ?_ | refine gI ?_ | refine gJ ?_ | refine gK ?_ | refine gL ?_ | refine lwp_region hC ⟨[], [], []⟩ (told0 _ _) rfl ⟨⟩ ?_
                            (refine end_intro (by first | exact .inr rfl | exact .inl rfl) [] rfl ?_)
                            exact ⟨rfl, trivial⟩
                          · simp [AllL, All, cd_p, cp_p, cv_p, wthW, mdR, mdB]
                        · exact sd
                      · exact absurd hb (by simp)
                    · rw [if_pos hc]
                      repeat first | refine lwp_seq fun K hK => ?_ | ((with_reducible refine gA ?_); apply_assumption -exfalso -symm) | refine gB ?_ | refine gC ?_ | refine gD ?_ | refine gE ?_ | refine gF rfl ?_ | refine gG rfl ?_ | refine gH ?_ | refine gI ?_ | refine gJ ?_ | refine gK ?_ | refine gL ?_ | refine lwp_region hC ⟨[], [], []⟩ (told0 _ _) rfl ⟨⟩ ?_
                      (refine lwp_cond hC rfl (by first | exact ⟨⟩ | exact sd) (fun hb => ?_) (fun hb => ?_) <;> (try simp only [decide_eq_true_eq, decide_eq_false_iff_not, Bool.not_eq_true', Bool.not_eq_false', ne_eq, Decidable.not_not] at hb))
                      · exact absurd hb hc
                      · clear hb
                        repeat first | refine lwp_seq fun K hK => ?_ | ((with_reducible refine gA ?_); apply_assumption -exfalso -symm) | refine gB ?_ | refine gC ?_ | refine gD ?_ | refine gE ?_ | refine gF rfl ?_ | refine gG rfl ?_ | refine gH ?_ | refine gI ?_ | refine gJ ?_ | refine gK ?_ | refine gL ?_ | refine lwp_region hC ⟨[], [], []⟩ (told0 _ _) rfl ⟨⟩ ?_
                        (refine lwp_region hC ⟨[], [], [(4, Placed2_i rnN [] (cgS m s l t) [(0, some 14), (1, some 15), (2, none), (3, none)])]⟩ (told1 _ (by rw [hP]; exact (calls_cons (Placed2_s _ _ _ _ ⟨rfl, fun k hk => absurd hk (Nat.not_lt_zero k)⟩ (Nat.zero_le _) (Nat.zero_le _)) calls_nil))) rfl ?_ ?_; rotate_left 1)
                        · repeat first | refine lwp_seq fun K hK => ?_ | ((with_reducible refine gA ?_); apply_assumption -exfalso -symm) | refine gB ?_ | refine gC ?_ | refine gD ?_ | refine gE ?_ | refine gF rfl ?_ | refine gG rfl ?_ | refine gH ?_ | refine gI ?_ | refine gJ ?_ | refine gK ?_ | refine gL ?_ | refine lwp_region hC ⟨[], [], []⟩ (told0 _ _) rfl ⟨⟩ ?_
                          (refine end_intro (by first | exact .inr rfl | exact .inl rfl) [] rfl ?_)
                          exact ⟨rfl, trivial⟩
                        · simp [AllL, All, cd_p, cp_p, cv_p, wthW, rnN, floats, spans]
                          exact ⟨rfl, rfl⟩
                  · exact sd
                · have hz : ¬ firstS [checkPairsS m s l, runE t] = 0 := hb
                  clear hb
                  rw [rgQ_bad hz]
                  repeat first | refine lwp_seq fun K hK => ?_ | ((with_reducible refine gA ?_); apply_assumption -exfalso -symm) | refine gB ?_ | refine gC ?_ | refine gD ?_ | refine gE ?_ | refine gF rfl ?_ | refine gG rfl ?_ | refine gH ?_ | refine gI ?_ | refine gJ ?_ | refine gK ?_ | refine gL ?_ | refine lwp_region hC ⟨[], [], []⟩ (told0 _ _) rfl ⟨⟩ ?_
                  (refine lwp_cond hC rfl (by first | exact ⟨⟩ | exact sd) (fun hb => ?_) (fun hb => ?_) <;> (try simp only [decide_eq_true_eq, decide_eq_false_iff_not, Bool.not_eq_true', Bool.not_eq_false', ne_eq, Decidable.not_not] at hb))
                  · exact absurd hb hz
                  · clear hb
                    repeat first | refine lwp_seq fun K hK => ?_ | ((with_reducible refine gA ?_); apply_assumption -exfalso -symm) | refine gB ?_ | refine gC ?_ | refine gD ?_ | refine gE ?_ | refine gF rfl ?_ | refine gG rfl ?_ | refine gH ?_ | refine gI ?_ | refine gJ ?_ | refine gK ?_ | refine gL ?_ | refine lwp_region hC ⟨[], [], []⟩ (told0 _ _) rfl ⟨⟩ ?_
                    (refine lwp_region hC ⟨[], [], [(4, Placed2_i rnN [] (firstS [checkPairsS m s l, runE t]) [(0, some 14), (1, some 15), (2, none), (3, none)])]⟩ (told1 _ (by rw [hP]; exact (calls_cons (Placed2_s _ _ _ _ ⟨rfl, fun k hk => absurd hk (Nat.not_lt_zero k)⟩ (Nat.zero_le _) (Nat.zero_le _)) calls_nil))) rfl ?_ ?_; rotate_left 1)
                    · repeat first | refine lwp_seq fun K hK => ?_ | ((with_reducible refine gA ?_); apply_assumption -exfalso -symm) | refine gB ?_ | refine gC ?_ | refine gD ?_ | refine gE ?_ | refine gF rfl ?_ | refine gG rfl ?_ | refine gH ?_ | refine gI ?_ | refine gJ ?_ | refine gK ?_ | refine gL ?_ | refine lwp_region hC ⟨[], [], []⟩ (told0 _ _) rfl ⟨⟩ ?_
                      (refine end_intro (by first | exact .inr rfl | exact .inl rfl) [] rfl ?_)
                      exact ⟨rfl, trivial⟩
                    · simp [AllL, All, cd_p, cp_p, cv_p, wthW, rnN, floats, spans]
                      exact ⟨rfl, rfl⟩
              · exact sd
            · exact sd
        · simp [AllL, All, cd_p, cp_p, cv_p, *]
      · have hT' : shortR t = false := by simpa using hT
        (refine lwp_region hC ⟨[(7, { b := some false }), (12, { b := some false })], [], [(0, Awake_i), (4, Short_i m s [(0, some 2), (1, some 3)]), (9, ShortP_i l [(0, some 4)]), (14, ShortR_i t [(0, some 5), (1, some 6)])]⟩ (told1 _ (by rw [hP]; exact (calls_cons (Awake_s) (calls_cons (Short_s _ _ _ hmm hss) (calls_cons (ShortP_s _ _ hll) (calls_cons (ShortR_s _ _) calls_nil)))))) rfl ?_ ?_; rotate_left 1)
        · rw [hS, hQ, hT']
          repeat first | refine lwp_seq fun K hK => ?_ | ((with_reducible refine gA ?_); apply_assumption -exfalso -symm) | refine gB ?_ | refine gC ?_ | refine gD ?_ | refine gE ?_ | refine gF rfl ?_ | refine gG rfl ?_ | refine gH ?_ | refine gI ?_ | refine gJ ?_ | refine gK ?_ | refine gL ?_ | refine lwp_region hC ⟨[], [], []⟩ (told0 _ _) rfl ⟨⟩ ?_
          (refine lwp_cond hC rfl (by first | exact ⟨⟩ | exact sd) (fun hb => ?_) (fun hb => ?_) <;> (try simp only [decide_eq_true_eq, decide_eq_false_iff_not, Bool.not_eq_true', Bool.not_eq_false', ne_eq, Decidable.not_not] at hb))
          · clear hb
            repeat first | refine lwp_seq fun K hK => ?_ | ((with_reducible refine gA ?_); apply_assumption -exfalso -symm) | refine gB ?_ | refine gC ?_ | refine gD ?_ | refine gE ?_ | refine gF rfl ?_ | refine gG rfl ?_ | refine gH ?_ | refine gI ?_ | refine gJ ?_ | refine gK ?_ | refine gL ?_ | refine lwp_region hC ⟨[], [], []⟩ (told0 _ _) rfl ⟨⟩ ?_
            (refine lwp_region hC ⟨[], [], [(0, Awake_i)]⟩ (told1 _ (by rw [hP]; exact (calls_cons (Awake_s) calls_nil))) rfl ?_ ?_; rotate_left 1)
            · repeat first | refine lwp_seq fun K hK => ?_ | ((with_reducible refine gA ?_); apply_assumption -exfalso -symm) | refine gB ?_ | refine gC ?_ | refine gD ?_ | refine gE ?_ | refine gF rfl ?_ | refine gG rfl ?_ | refine gH ?_ | refine gI ?_ | refine gJ ?_ | refine gK ?_ | refine gL ?_ | refine lwp_region hC ⟨[], [], []⟩ (told0 _ _) rfl ⟨⟩ ?_
              (refine end_intro (by first | exact .inr rfl | exact .inl rfl) [] rfl ?_)
              exact ⟨rfl, trivial⟩
            · exact sd
          · exact absurd hb (by simp)
        · simp [AllL, All, cd_p, cp_p, cv_p, *]
    · have hQ' : shortPS l = false := by simpa using hQ
      (refine lwp_region hC ⟨[(7, { b := some false }), (12, { b := some true }), (13, { g := some false }), (14, { g := some false }), (15, { g := some false })], [], [(0, Awake_i), (4, Short_i m s [(0, some 2), (1, some 3)]), (9, ShortP_i l [(0, some 4)])]⟩ (told1 _ (by rw [hP]; exact (calls_cons (Awake_s) (calls_cons (Short_s _ _ _ hmm hss) (calls_cons (ShortP_s _ _ hll) calls_nil))))) rfl ?_ ?_; rotate_left 1)
      · repeat first | refine lwp_seq fun K hK => ?_ | ((with_reducible refine gA ?_); apply_assumption -exfalso -symm) | refine gB ?_ | refine gC ?_ | refine gD ?_ | refine gE ?_ | refine gF rfl ?_ | refine gG rfl ?_ | refine gH ?_ | refine gI ?_ | refine gJ ?_ | refine gK ?_ | refine gL ?_ | refine lwp_region hC ⟨[], [], []⟩ (told0 _ _) rfl ⟨⟩ ?_
        (refine lwp_cond hC rfl (by first | exact ⟨⟩ | exact sd) (fun hb => ?_) (fun hb => ?_) <;> (try simp only [decide_eq_true_eq, decide_eq_false_iff_not, Bool.not_eq_true', Bool.not_eq_false', ne_eq, Decidable.not_not] at hb))
        · clear hb
          repeat first | refine lwp_seq fun K hK => ?_ | ((with_reducible refine gA ?_); apply_assumption -exfalso -symm) | refine gB ?_ | refine gC ?_ | refine gD ?_ | refine gE ?_ | refine gF rfl ?_ | refine gG rfl ?_ | refine gH ?_ | refine gI ?_ | refine gJ ?_ | refine gK ?_ | refine gL ?_ | refine lwp_region hC ⟨[], [], []⟩ (told0 _ _) rfl ⟨⟩ ?_
          (refine lwp_region hC ⟨[], [], [(0, Awake_i)]⟩ (told1 _ (by rw [hP]; exact (calls_cons (Awake_s) calls_nil))) rfl ?_ ?_; rotate_left 1)
          · repeat first | refine lwp_seq fun K hK => ?_ | ((with_reducible refine gA ?_); apply_assumption -exfalso -symm) | refine gB ?_ | refine gC ?_ | refine gD ?_ | refine gE ?_ | refine gF rfl ?_ | refine gG rfl ?_ | refine gH ?_ | refine gI ?_ | refine gJ ?_ | refine gK ?_ | refine gL ?_ | refine lwp_region hC ⟨[], [], []⟩ (told0 _ _) rfl ⟨⟩ ?_
            (refine end_intro (by first | exact .inr rfl | exact .inl rfl) [] rfl ?_)
            exact ⟨rfl, trivial⟩
          · exact sd
        · exact absurd hb (by simp)
      · simp [AllL, All, cd_p, cp_p, cv_p, *]
  · have hS' : shortS m s = false := by simpa using hS
    (refine lwp_region hC ⟨[(7, { b := some true }), (8, { g := some false }), (9, { g := some false }), (10, { g := some false }), (13, { g := some false }), (14, { g := some false }), (15, { g := some false })], [], [(0, Awake_i), (4, Short_i m s [(0, some 2), (1, some 3)])]⟩ (told1 _ (by rw [hP]; exact (calls_cons (Awake_s) (calls_cons (Short_s _ _ _ hmm hss) calls_nil)))) rfl ?_ ?_; rotate_left 1)
    · repeat first | refine lwp_seq fun K hK => ?_ | ((with_reducible refine gA ?_); apply_assumption -exfalso -symm) | refine gB ?_ | refine gC ?_ | refine gD ?_ | refine gE ?_ | refine gF rfl ?_ | refine gG rfl ?_ | refine gH ?_ | refine gI ?_ | refine gJ ?_ | refine gK ?_ | refine gL ?_ | refine lwp_region hC ⟨[], [], []⟩ (told0 _ _) rfl ⟨⟩ ?_
      (refine lwp_cond hC rfl (by first | exact ⟨⟩ | exact sd) (fun hb => ?_) (fun hb => ?_) <;> (try simp only [decide_eq_true_eq, decide_eq_false_iff_not, Bool.not_eq_true', Bool.not_eq_false', ne_eq, Decidable.not_not] at hb))
      · clear hb
        repeat first | refine lwp_seq fun K hK => ?_ | ((with_reducible refine gA ?_); apply_assumption -exfalso -symm) | refine gB ?_ | refine gC ?_ | refine gD ?_ | refine gE ?_ | refine gF rfl ?_ | refine gG rfl ?_ | refine gH ?_ | refine gI ?_ | refine gJ ?_ | refine gK ?_ | refine gL ?_ | refine lwp_region hC ⟨[], [], []⟩ (told0 _ _) rfl ⟨⟩ ?_
        (refine lwp_region hC ⟨[], [], [(0, Awake_i)]⟩ (told1 _ (by rw [hP]; exact (calls_cons (Awake_s) calls_nil))) rfl ?_ ?_; rotate_left 1)
        · repeat first | refine lwp_seq fun K hK => ?_ | ((with_reducible refine gA ?_); apply_assumption -exfalso -symm) | refine gB ?_ | refine gC ?_ | refine gD ?_ | refine gE ?_ | refine gF rfl ?_ | refine gG rfl ?_ | refine gH ?_ | refine gI ?_ | refine gJ ?_ | refine gK ?_ | refine gL ?_ | refine lwp_region hC ⟨[], [], []⟩ (told0 _ _) rfl ⟨⟩ ?_
          (refine end_intro (by first | exact .inr rfl | exact .inl rfl) [] rfl ?_)
          exact ⟨rfl, trivial⟩
        · exact sd
      · exact absurd hb (by simp)
    · simp [AllL, All, cd_p, cp_p, cv_p, *]

end Go.Proofs.YtoopgdchiljmiaaGreatDoor
