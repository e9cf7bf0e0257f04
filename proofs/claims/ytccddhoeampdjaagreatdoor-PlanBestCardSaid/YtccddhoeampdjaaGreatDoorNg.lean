/- Chapter 9: the law PlanBest. -/
import Derived.Test.YtccddhoeampdjaaGreatDoorNf
import Derived.Test.YtccddhoeampdjaaGreatDoorOh
set_option linter.unusedVariables false
set_option linter.unusedSimpArgs false
namespace Go.Proofs.YtccddhoeampdjaaGreatDoor
open Go.RowKit Go.Sym

theorem bestP_beg {S : List Sec} {T : List Shf} (hB : OffB S T) : Beg S T [] S.length := ⟨by simp, fitB_nil hB, fun x hx => (by cases hx)⟩
theorem bestP_rp (S : List Sec) (T : List Shf) : rp S T [] S.length = bestP S T := rfl
theorem bestP_is {S : List Sec} {T : List Shf} (hB : OffB S T) : (bestP S T).length = S.length ∧ inB T (bestP S T) := (rp_is (bestP_beg hB)).2
theorem planEr_len (S : List Sec) (T : List Shf) : (planEr S T).length ≤ S.length := by
  unfold planEr
  split
  · rename_i h; have := (bestP_is (offB h)).1; omega
  · simp
theorem lateR_len (S : List Sec) (T : List Shf) : (lateR S T).length ≤ S.length := by
  unfold lateR
  split
  · exact lateL_len S T _
  · simp
def RPlN_i (S : List Sec) (T : List Shf) (σ : Ren) : Inst := { f := 22, hin := offIn S T, args := [ofA S T, .lit (.slice none 0 0)], hout := [], ret := .lit (.slice none 0 0), σ := σ }
theorem RPlN_s (S : List Sec) (T : List Shf) (σ : Ren) (h : S.length = 0) : (RPlN_i S T σ).ok Tryz.prog := by
  unfold RPlN_i Inst.ok; dsimp only; refine spec_of_body (tys := tys) 2 Tryz.func22 (by kernel_rfl) rfl tys_ok rfl (Nat.le_of_ble_eq_true rfl) (fun _ _ h => (by cases h)) fun F hP hm hC hrd => ?_; conv => whnf
  repeat first | refine lwp_seq fun K hK => ?_ | (with_reducible refine gA ?_; apply_assumption -exfalso -symm) | refine Stp.h ?_ | refine gF rfl ?_ | refine gG rfl ?_ | refine gM hC rfl sd ?_
  refine lwp_condS hC rfl sd ?_ ?_ <;> intro hb
  · repeat first | refine lwp_seq fun K hK => ?_ | (with_reducible refine gA ?_; apply_assumption -exfalso -symm) | refine Stp.h ?_ | refine gF rfl ?_ | refine gG rfl ?_ | refine gM hC rfl sd ?_
    (refine end_intro (by first | exact .inr rfl | exact .inl rfl) [(0, some 0), (1, some 1)] rfl ?_)
    exact sd
  · omega
def LawBe_i (S : List Sec) (T : List Shf) : Inst := { f := 3, gl := lawG, hin := [(0, pwC), (1, kdC), (2, .ro S.length 5 (secC S)), (3, .ro T.length 4 (shfC T))], args := [.agg [.sl 2 S.length, .sl 3 T.length]], hout := [], ret := bl true, σ := [] }
set_option maxRecDepth 20000 in
set_option maxHeartbeats 8000000 in
theorem LawBe_s (S : List Sec) (T : List Shf) (hS : S.length ≤ 9223372036854775807) (hT : T.length ≤ 9223372036854775807) : (LawBe_i S T).ok Tryz.prog := by
  unfold LawBe_i Inst.ok; dsimp only; refine spec_of_body (tys := tys) 4 Tryz.func3 (by kernel_rfl) rfl tys_ok rfl (Nat.le_of_ble_eq_true rfl) (fun g i h => by simp only [List.mem_cons, List.not_mem_nil, or_false, Prod.mk.injEq] at h; omega) fun F hP hm hC hrd => ?_; conv => whnf
  repeat first | refine lwp_seq fun K hK => ?_ | (with_reducible refine gA ?_; apply_assumption -exfalso -symm) | refine Stp.h ?_ | refine gF rfl ?_ | refine gG rfl ?_ | refine gM hC rfl ⟨⟩ ?_
  by_cases c1 : shortO S T = true
  · obtain ⟨hN, s8, t6⟩ := shortO_len c1
    (refine lwp_region hC ⟨[], [], [(1, ShortO_i S T [(0, some 2), (1, some 3)])]⟩ (told1 _ (by rw [hP]; exact (calls_cons (ShortO_s _ _ _ hS hT) calls_nil))) rfl ?_ ?_; rotate_left 1)
    · repeat first | refine lwp_seq fun K hK => ?_ | (with_reducible refine gA ?_; apply_assumption -exfalso -symm) | refine Stp.h ?_ | refine gF rfl ?_ | refine gG rfl ?_ | refine gM hC rfl ⟨⟩ ?_
      refine lwp_condS hC rfl sd ?_ ?_ <;> intro hb
      · exfalso; simp_all
      · clear hb c1
        have HN := Lib.hid hN
        have hpl := planEr_len S T
        have hrl := lateR_len S T
        clear hN
        repeat first | refine lwp_seq fun K hK => ?_ | (with_reducible refine gA ?_; apply_assumption -exfalso -symm) | refine Stp.h ?_ | refine gF rfl ?_ | refine gG rfl ?_ | refine gM hC rfl ⟨⟩ ?_
        (refine lwp_region hC ⟨[], [], [(1, Own_i S T [(0, some 2), (1, some 3)]), (2, PlanF_i S T [(0, some 5), (1, some 6)])]⟩ (told1 _ (by rw [hP]; exact (calls_cons (Own_s _ _ _ (by omega) (by omega)) (calls_cons (PlanF_s _ _ _ (by omega) (by omega)) calls_nil)))) rfl ?_ ?_; rotate_left 1)
        · repeat first | refine lwp_seq fun K hK => ?_ | (with_reducible refine gA ?_; apply_assumption -exfalso -symm) | refine Stp.h ?_ | refine gF rfl ?_ | refine gG rfl ?_ | refine gM hC rfl ⟨⟩ ?_
          (refine lwp_region hC ⟨[], [], [(1, Own_i S T [(0, some 2), (1, some 3)]), (2, LateP_i S T [(0, some 10), (1, some 11)])]⟩ (told1 _ (by rw [hP]; exact (calls_cons (Own_s _ _ _ (by omega) (by omega)) (calls_cons (LateP_s _ _ _ (by omega) (by omega)) calls_nil)))) rfl ?_ ?_; rotate_left 1)
          · repeat first | refine lwp_seq fun K hK => ?_ | (with_reducible refine gA ?_; apply_assumption -exfalso -symm) | refine Stp.h ?_ | refine gF rfl ?_ | refine gG rfl ?_ | refine gM hC rfl ⟨⟩ ?_
            (refine lwp_region hC ⟨[], [], [(1, ROff_i S T [(0, some 2), (1, some 3)])]⟩ (told1 _ (by rw [hP]; exact (calls_cons (ROff_s _ _ _ (by omega) (by omega) HN.out) calls_nil))) rfl ?_ ?_; rotate_left 1)
            · ((with_reducible refine gA ?_); apply_assumption -exfalso -symm)
              refine lwp_seq fun K hK => ?_
              (refine lwp_region hC ⟨[], [], []⟩ (told0 _ _) rfl ?_ ?_; rotate_left 1)
              · ((with_reducible refine gA ?_); apply_assumption -exfalso -symm)
                refine lwp_seq fun K hK => ?_
                (refine lwp_region hC ⟨[], [], []⟩ (told0 _ _) rfl ?_ ?_; rotate_left 1)
                · ((with_reducible refine gA ?_); apply_assumption -exfalso -symm)
                  refine lwp_seq fun K hK => ?_
                  (refine lwp_region hC ⟨[], [], []⟩ (told0 _ _) rfl ?_ ?_; rotate_left 1)
                  · ((with_reducible refine gA ?_); apply_assumption -exfalso -symm)
                    refine lwp_cut (t := ⟨[(1, .ptr 4 0 0 0), (3, .sl 7 (planEr S T).length), (4, .ptr 8 0 0 0), (5, i64 (offE S T)), (6, .sl 12 (lateR S T).length), (7, i64 (offE S T)), (8, i64 (offE S T)), (9, .sl 16 (planEr S T).length), (10, .sl 17 (lateR S T).length), (11, .ptr 13 0 0 0)], [(17, .row 179 (lateR S T).length 2 (reaC (lateR S T))), (16, .row 3 (planEr S T).length 1 (.ints .i64 (planEr S T))), (13, .blk 44 [i64 (planVr S T).1, i64 (planVr S T).2]), (12, .row 128 (lateR S T).length 2 (reaC (lateR S T))), (8, .blk 30 [i64 (planVr S T).1, i64 (planVr S T).2]), (7, .row 3 (planEr S T).length 1 (.ints .i64 (planEr S T))), (4, .blk 25 [.sl 2 S.length, .sl 3 T.length]), (3, .ro T.length 4 (shfC T)), (2, .ro S.length 5 (secC S)), (1, kdC), (0, pwC)], 18⟩) ?_ ?_
                    · repeat first | refine lwp_seq fun K hK => ?_ | (with_reducible refine gA ?_; apply_assumption -exfalso -symm) | refine Stp.h ?_ | refine gF rfl ?_ | refine gG rfl ?_ | refine gM hC rfl sd ?_
                      refine lwp_condS hC rfl sd ?_ ?_ <;> intro hb
                      · have hB := offB hb
                        have e1 : planEr S T = bestP S T := if_pos hb
                        have e2 : planVr S T = (valV S (bestP S T) (bestP S T).length, valC S T (bestP S T) (bestP S T).length) := if_pos hb
                        have e3 : lateR S T = lateL S T S.length := if_pos hb
                        have hbi := bestP_is hB
                        have hbl := hbi.1
                        have HBI := Lib.hid hbi.2
                        have hbg := bestP_beg hB
                        have HBG := Lib.hid hbg
                        have HB := Lib.hid hB
                        have E1 := Lib.hid e1
                        have E2 := Lib.hid e2
                        have E3 := Lib.hid e3
                        clear hbi hbg hB e1 e2 e3
                        rw [hb]
                        by_cases hn : S.length = 0
                        · have hbn : bestP S T = [] := List.eq_nil_of_length_eq_zero (by omega)
                          have HBN := Lib.hid hbn
                          clear hbn
                          repeat first | refine lwp_seq fun K hK => ?_ | (with_reducible refine gA ?_; apply_assumption -exfalso -symm) | refine Stp.h ?_ | refine gF rfl ?_ | refine gG rfl ?_ | refine gM hC rfl sd ?_
                          (refine lwp_drawn hC (by rw [hP]; exact mixed) ⟨[], [], [(1, RPlN_i S T [(0, some 2), (1, some 3)]), (3, RLate_i S T [(0, some 2), (1, some 3)])]⟩ (told1 _ (by rw [hP]; exact (calls_cons (RPlN_s _ _ _ hn) (calls_cons (RLate_s _ _ _ (by omega) (by omega)) calls_nil)))) [0, 1, 0, 7, 15, 31] 3 rfl ?_ ?_; rotate_left 1)
                          · repeat first | refine lwp_seq fun K hK => ?_ | (with_reducible refine gA ?_; apply_assumption -exfalso -symm) | refine Stp.h ?_ | refine gF rfl ?_ | refine gG rfl ?_ | refine gM hC rfl sd ?_
                            (refine lwp_region hC ⟨[], [], [(2, RVal_i S T [] [(0, some 2), (1, some 3), (2, none)])]⟩ (told1 _ (by rw [hP]; exact (calls_cons (RVal_s _ _ _ _ HB.out (by simp) (fun k hk => (by cases hk))) calls_nil))) rfl ?_ ?_; rotate_left 1)
                            · repeat first | refine lwp_seq fun K hK => ?_ | (with_reducible refine gA ?_; apply_assumption -exfalso -symm) | refine Stp.h ?_ | refine gF rfl ?_ | refine gG rfl ?_ | refine gM hC rfl sd ?_
                              rw [E1.out, E2.out, E3.out, HBN.out]
                              refine gA (sub_intro hm [(0, some 0), (1, some 1), (2, some 2), (3, some 3), (4, some 4), (7, some 7), (8, some 8), (12, some 12), (13, some 13), (16, none), (17, some 15)] rfl ?_)
                              exact sd
                            · exact sd
                          · exact sd
                        · obtain ⟨d, hd⟩ : ∃ d, S.length = d + 1 := ⟨S.length - 1, by omega⟩
                          have hrp : rp S T [] (d + 1) = bestP S T := by rw [← hd]; rfl
                          have HRP := Lib.hid hrp
                          clear hrp
                          repeat first | refine lwp_seq fun K hK => ?_ | (with_reducible refine gA ?_; apply_assumption -exfalso -symm) | refine Stp.h ?_ | refine gF rfl ?_ | refine gG rfl ?_ | refine gM hC rfl sd ?_
                          (refine lwp_drawn hC (by rw [hP]; exact mixed) ⟨[], [], [(1, RPl_i S T [] d [(0, some 2), (1, some 3), (2, none)]), (3, RLate_i S T [(0, some 2), (1, some 3)])]⟩ (told1 _ (by rw [hP]; exact (calls_cons (RPl_s _ _ HB.out _ _ _ (hd ▸ HBG.out)) (calls_cons (RLate_s _ _ _ (by omega) (by omega)) calls_nil)))) [0, 1, 0, 7, 15, 31] 3 rfl ?_ ?_; rotate_left 1)
                          · rw [HRP.out]
                            repeat first | refine lwp_seq fun K hK => ?_ | (with_reducible refine gA ?_; apply_assumption -exfalso -symm) | refine Stp.h ?_ | refine gF rfl ?_ | refine gG rfl ?_ | refine gM hC rfl sd ?_
                            (refine lwp_region hC ⟨[], [], [(2, RVal_i S T (bestP S T) [(0, some 2), (1, some 3), (2, some 16)])]⟩ (told1 _ (by rw [hP]; exact (calls_cons (RVal_s _ _ _ _ HB.out (by omega) (inB_get HBI.out)) calls_nil))) rfl ?_ ?_; rotate_left 1)
                            · repeat first | refine lwp_seq fun K hK => ?_ | (with_reducible refine gA ?_; apply_assumption -exfalso -symm) | refine Stp.h ?_ | refine gF rfl ?_ | refine gG rfl ?_ | refine gM hC rfl sd ?_
                              rw [E1.out, E2.out, E3.out]
                              refine gA (sub_intro hm [(0, some 0), (1, some 1), (2, some 2), (3, some 3), (4, some 4), (7, some 7), (8, some 8), (12, some 12), (13, some 13), (16, some 16), (17, some 17)] rfl ?_)
                              exact sd
                            · exact sd
                          · exact sd
                      · have e1 : planEr S T = [] := if_neg hb
                        have e2 : planVr S T = (0, 0) := if_neg hb
                        have e3 : lateR S T = [] := if_neg hb
                        repeat first | refine lwp_seq fun K hK => ?_ | (with_reducible refine gA ?_; apply_assumption -exfalso -symm) | refine Stp.h ?_ | refine gF rfl ?_ | refine gG rfl ?_ | refine gM hC rfl sd ?_
                        rw [e1, e2, e3]
                        refine gA (sub_intro hm [(0, some 0), (1, some 1), (2, some 2), (3, some 3), (4, some 4), (7, some 7), (8, some 8), (12, some 12), (13, some 13), (16, none), (17, none)] rfl ?_)
                        exact sd
                    · repeat first | refine lwp_seq fun K hK => ?_ | (with_reducible refine gA ?_; apply_assumption -exfalso -symm) | refine Stp.h ?_ | refine gF rfl ?_ | refine gG rfl ?_ | refine gM hC rfl ⟨⟩ ?_
                      (refine lwp_region hC ⟨[(5, { b := some true }), (10, { b := some true }), (15, { b := some true }), (20, { b := some true }), (26, { b := some true }), (31, { b := some true })], [(13, custTold)], [(1, Own_i S T [(0, some 2), (1, some 3)]), (2, Off_i S T [(0, some 18), (1, some 19)]), (8, SameI_i (planEr S T) [(0, some 7), (1, some 16)]), (22, Reas_i (lateR S T) [(0, some 12)]), (24, SameR_i (lateR S T) [(0, some 20), (1, some 17)]), (32, Awake_i)]⟩ ⟨(fun p hp => by rcases List.mem_cons.1 hp with rfl | hp; rw [hP]; exact custTold_ok; cases hp), (by rw [hP]; exact (calls_cons (Own_s _ _ _ (by omega) (by omega)) (calls_cons (Off_s _ _ _ (by omega) (by omega)) (calls_cons (SameI_s _ _ (by omega)) (calls_cons (Reas_s _ _ (by omega)) (calls_cons (SameR_s _ _ (by omega)) (calls_cons (Awake_s) calls_nil)))))))⟩ rfl ?_ ?_; rotate_left 1)
                      · repeat first | refine lwp_seq fun K hK => ?_ | (with_reducible refine gA ?_; apply_assumption -exfalso -symm) | refine Stp.h ?_ | refine gF rfl ?_ | refine gG rfl ?_ | refine gM hC rfl sd ?_
                        (refine end_intro (by first | exact .inr rfl | exact .inl rfl) [] rfl ?_)
                        exact ⟨rfl, trivial⟩
                      · simp [AllL, All]
                  · exact sd
                · exact sd
              · exact sd
            · exact sd
          · exact sd
        · exact sd
    · simp [AllL, All, *]
  · (refine lwp_region hC ⟨[], [], [(1, ShortO_i S T [(0, some 2), (1, some 3)])]⟩ (told1 _ (by rw [hP]; exact (calls_cons (ShortO_s _ _ _ hS hT) calls_nil))) rfl ?_ ?_; rotate_left 1)
    · repeat first | refine lwp_seq fun K hK => ?_ | (with_reducible refine gA ?_; apply_assumption -exfalso -symm) | refine Stp.h ?_ | refine gF rfl ?_ | refine gG rfl ?_ | refine gM hC rfl ⟨⟩ ?_
      refine lwp_condS hC rfl sd ?_ ?_ <;> intro hb
      · repeat first | refine lwp_seq fun K hK => ?_ | (with_reducible refine gA ?_; apply_assumption -exfalso -symm) | refine Stp.h ?_ | refine gF rfl ?_ | refine gG rfl ?_ | refine gM hC rfl ⟨⟩ ?_
        (refine lwp_region hC ⟨[], [], [(0, Awake_i)]⟩ (told1 _ (by rw [hP]; exact (calls_cons (Awake_s) calls_nil))) rfl ?_ ?_; rotate_left 1)
        · repeat first | refine lwp_seq fun K hK => ?_ | (with_reducible refine gA ?_; apply_assumption -exfalso -symm) | refine Stp.h ?_ | refine gF rfl ?_ | refine gG rfl ?_ | refine gM hC rfl sd ?_
          (refine end_intro (by first | exact .inr rfl | exact .inl rfl) [] rfl ?_)
          exact ⟨rfl, trivial⟩
        · exact sd
      · exfalso; simp_all
    · simp [AllL, All, *]

end Go.Proofs.YtccddhoeampdjaaGreatDoor
