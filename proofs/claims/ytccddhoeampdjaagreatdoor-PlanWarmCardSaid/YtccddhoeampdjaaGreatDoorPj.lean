/- PlanPulls: the law. -/
import Derived.Test.YtccddhoeampdjaaGreatDoorPi
set_option linter.unusedVariables false
set_option linter.unusedSimpArgs false
namespace Go.Proofs.YtccddhoeampdjaaGreatDoor
open Go.RowKit Go.Sym

theorem one_step (m x : Int) (l : List Int) : firstS [firstS [m, firstS l], x] = firstS [m, firstS (l ++ [x])] := by
  rw [firstS_snoc]
  simp only [firstS]
  by_cases h1 : m = 0 <;> by_cases h2 : firstS l = 0 <;> by_cases h3 : x = 0 <;> simp [h1, h2, h3]
theorem one_end (m x y : Int) : firstS [firstS [m, x], y] = firstS [m, firstS [x, y]] := by
  simp only [firstS]
  by_cases h1 : m = 0 <;> by_cases h2 : x = 0 <;> by_cases h3 : y = 0 <;> simp [h1, h2, h3]
theorem one_start (m : Int) : m = firstS [m, firstS []] := by
  simp only [firstS]
  by_cases h1 : m = 0 <;> simp [h1]
theorem pullS_bad {L H g a b : Int} (h : ¬ argE L H g a b = 0) : pullS L H g a b = (0, argE L H g a b) := by
  have e : pullE L H g a b = argE L H g a b := by
    unfold pullE
    unfold argE at h ⊢
    simp only [firstS] at h ⊢
    by_cases h1 : railS L H 0 = 0 <;> by_cases h2 : growS g = 0 <;> by_cases h3 : bandS a b = 0 <;> simp [h1, h2, h3] at h ⊢
  unfold pullS
  rw [e, if_neg h]
def LawPu_i (l : List Z3) (g a b : Int) : Inst := { f := 9, gl := lawG, hin := [(0, pwC), (1, kdC), (2, .ro l.length 3 (z3C l))], args := [.sl 2 l.length, i64 g, .agg [i64 a, i64 b]], hout := [], ret := bl true, σ := [] }
set_option maxRecDepth 20000 in
set_option maxHeartbeats 4000000 in
theorem LawPu_s (l : List Z3) (g a b : Int) (hl : l.length ≤ 9223372036854775807) : (LawPu_i l g a b).ok Tryz.prog := by
  unfold LawPu_i Inst.ok; dsimp only; refine spec_of_body (tys := tys) 3 Tryz.func9 (by kernel_rfl) rfl tys_ok rfl (Nat.le_of_ble_eq_true rfl) (fun g i h => by simp only [List.mem_cons, List.not_mem_nil, or_false, Prod.mk.injEq] at h; omega) fun F hP hm hC hrd => ?_; conv => whnf
  repeat first | refine lwp_seq fun K hK => ?_ | (with_reducible refine gA ?_; apply_assumption -exfalso -symm) | refine Stp.h ?_ | refine gF rfl ?_ | refine gG rfl ?_ | refine gM hC rfl sd ?_
  refine lwp_condS hC rfl sd ?_ ?_ <;> intro hb
  · repeat first | refine lwp_seq fun K hK => ?_ | (with_reducible refine gA ?_; apply_assumption -exfalso -symm) | refine Stp.h ?_ | refine gF rfl ?_ | refine gG rfl ?_ | refine gM hC rfl sd ?_
    (refine lwp_region hC ⟨[], [], [(0, Awake_i)]⟩ (told1 _ (by rw [hP]; exact (calls_cons (Awake_s) calls_nil))) rfl ?_ ?_; rotate_left 1)
    · repeat first | refine lwp_seq fun K hK => ?_ | (with_reducible refine gA ?_; apply_assumption -exfalso -symm) | refine Stp.h ?_ | refine gF rfl ?_ | refine gG rfl ?_ | refine gM hC rfl sd ?_
      (refine end_intro (by first | exact .inr rfl | exact .inl rfl) [] rfl ?_)
      exact ⟨rfl, trivial⟩
    · exact sd
  · have hl' : l.length ≤ 9 := by omega
    clear hb
    repeat first | refine lwp_seq fun K hK => ?_ | (with_reducible refine gA ?_; apply_assumption -exfalso -symm) | refine Stp.h ?_ | refine gF rfl ?_ | refine gG rfl ?_ | refine gM hC rfl sd ?_
    refine lwp_loop (fun k : Nat => ⟨[(26, i64 k), (25, i64 l.length), (24, .sl 2 l.length), (7, .sl 4 k), (5, .ptr 3 0 0 0), (0, .sl 2 l.length), (1, i64 g)], [(4, .row 93 k 3 (z3C (l.take k))), (3, .blk 90 [i64 a, i64 b]), (2, .ro l.length 3 (z3C l)), (0, pwC), (1, kdC)], 5⟩) (fun k => k ≤ l.length) (fun k => l.length - k) 0 ⟨?_, sub_intro hm [(0, some 0), (1, some 1), (2, some 2), (3, some 3), (4, none)] rfl ?_⟩ ?_
    · exact Nat.zero_le _
    · exact sd
    · rintro k hk
      repeat first | refine lwp_seq fun K hK => ?_ | (with_reducible refine gA ?_; apply_assumption -exfalso -symm) | refine Stp.h ?_ | refine gF rfl ?_ | refine gG rfl ?_ | refine gM hC rfl sd ?_
      refine lwp_condS hC rfl sd ?_ ?_ <;> intro hb
      · repeat first | refine lwp_seq fun K hK => ?_ | (with_reducible refine gA ?_; apply_assumption -exfalso -symm) | refine Stp.h ?_ | refine gF rfl ?_ | refine gG rfl ?_ | refine gM hC rfl sd ?_
        rw [Int.toNat_natCast]
        refine gA ⟨k + 1, ?_, ?_, sub_intro hm [(0, some 0), (1, some 1), (2, some 2), (3, some 3), (4, some 8)] rfl ?_⟩
        · omega
        · omega
        · have e : (z3C (l.take (k + 1))).cells = (catC (z3C (l.take k)) (Cont.exp [i64 (l.getD k z3D).x, i64 (l.getD k z3D).y, i64 (l.getD k z3D).z])).cells := by
            rw [take_snoc l z3D k (by omega), z3C_snoc, catC_cells]; rfl
          exact sd
      · obtain rfl : k = l.length := by omega
        rw [List.take_of_length_le (Nat.le_refl _)]
        clear hb hk
        repeat first | refine lwp_seq fun K hK => ?_ | (with_reducible refine gA ?_; apply_assumption -exfalso -symm) | refine Stp.h ?_ | refine gF rfl ?_ | refine gG rfl ?_ | refine gM hC rfl sd ?_
        (refine lwp_region hC ⟨[], [], [(2, Join_i l g [(0, some 4)])]⟩ (told1 _ (by rw [hP]; exact (calls_cons (Join_s _ _ _ (by omega)) calls_nil))) rfl ?_ ?_; rotate_left 1)
        · repeat first | refine lwp_seq fun K hK => ?_ | (with_reducible refine gA ?_; apply_assumption -exfalso -symm) | refine Stp.h ?_ | refine gF rfl ?_ | refine gG rfl ?_ | refine gM hC rfl sd ?_
          (refine lwp_region hC ⟨[], [], [(3, When_i (decide ((l.length : Int) = 0)) 12)]⟩ (told1 _ (by rw [hP]; exact (calls_cons (When_s _ _) calls_nil))) rfl ?_ ?_; rotate_left 1)
          · ((with_reducible refine gA ?_); apply_assumption -exfalso -symm)
            refine lwp_cut (t := ⟨[(0, .sl 2 l.length), (1, i64 g), (5, .ptr 3 0 0 0), (10, .ptr 4 0 0 0), (11, i64 (joinS l g).2), (12, i64 (manyE l))], [(4, .blk 82 [i64 (joinS l g).1.1, i64 (joinS l g).1.2]), (3, .blk 90 [i64 a, i64 b]), (2, .ro l.length 3 (z3C l)), (0, pwC), (1, kdC)], 5⟩) ?_ ?_
            · repeat first | refine lwp_seq fun K hK => ?_ | (with_reducible refine gA ?_; apply_assumption -exfalso -symm) | refine Stp.h ?_ | refine gF rfl ?_ | refine gG rfl ?_ | refine gM hC rfl sd ?_
              refine lwp_condS hC rfl sd ?_ ?_ <;> intro hb
              · have e : manyE l = 5 := by
                  unfold manyE
                  rw [decide_eq_false (show ¬ (l.length : Int) = 0 by omega), decide_eq_true hb]; rfl
                repeat first | refine lwp_seq fun K hK => ?_ | (with_reducible refine gA ?_; apply_assumption -exfalso -symm) | refine Stp.h ?_ | refine gF rfl ?_ | refine gG rfl ?_ | refine gM hC rfl sd ?_
                rw [e]
                refine gA (sub_intro hm [(0, some 0), (1, some 1), (2, some 2), (3, some 3), (4, some 5)] rfl ?_)
                exact sd
              · have e : whenS (decide ((l.length : Int) = 0)) 12 = manyE l := by
                  unfold manyE
                  rw [decide_eq_false hb]
                  by_cases h : (l.length : Int) = 0 <;> simp [h, whenS, firstS]
                repeat first | refine lwp_seq fun K hK => ?_ | (with_reducible refine gA ?_; apply_assumption -exfalso -symm) | refine Stp.h ?_ | refine gF rfl ?_ | refine gG rfl ?_ | refine gM hC rfl sd ?_
                rw [e]
                refine gA (sub_intro hm [(0, some 0), (1, some 1), (2, some 2), (3, some 3), (4, some 5)] rfl ?_)
                exact sd
            · repeat first | refine lwp_seq fun K hK => ?_ | (with_reducible refine gA ?_; apply_assumption -exfalso -symm) | refine Stp.h ?_ | refine gF rfl ?_ | refine gG rfl ?_ | refine gM hC rfl sd ?_
              refine lwp_loop (fun k : Nat => ⟨[(50, i64 k), (49, i64 l.length), (48, .sl 2 l.length), (0, .sl 2 l.length), (1, i64 g), (5, .ptr 3 0 0 0), (10, .ptr 4 0 0 0), (11, i64 (joinS l g).2), (12, i64 (firstS [manyE l, firstS (railsL (l.take k))]))], [(4, .blk 82 [i64 (joinS l g).1.1, i64 (joinS l g).1.2]), (3, .blk 90 [i64 a, i64 b]), (2, .ro l.length 3 (z3C l)), (0, pwC), (1, kdC)], 5⟩) (fun k => k ≤ l.length) (fun k => l.length - k) 0 ⟨?_, sub_intro hm [(0, some 0), (1, some 1), (2, some 2), (3, some 3), (4, some 4)] rfl ?_⟩ ?_
              · exact Nat.zero_le _
              · have e : manyE l = firstS [manyE l, firstS (railsL (l.take 0))] := one_start _
                exact sd
              · rintro k hk
                repeat first | refine lwp_seq fun K hK => ?_ | (with_reducible refine gA ?_; apply_assumption -exfalso -symm) | refine Stp.h ?_ | refine gF rfl ?_ | refine gG rfl ?_ | refine gM hC rfl sd ?_
                refine lwp_condS hC rfl sd ?_ ?_ <;> intro hb
                · repeat first | refine lwp_seq fun K hK => ?_ | (with_reducible refine gA ?_; apply_assumption -exfalso -symm) | refine Stp.h ?_ | refine gF rfl ?_ | refine gG rfl ?_ | refine gM hC rfl sd ?_
                  rw [Int.toNat_natCast]
                  (refine lwp_region hC ⟨[], [], [(2, RRail_i (l.getD k z3D).x (l.getD k z3D).y (l.getD k z3D).z), (4, First_i [firstS [manyE l, firstS (railsL (l.take k))], railS (l.getD k z3D).x (l.getD k z3D).y (l.getD k z3D).z] [(0, some 7)])]⟩ (told1 _ (by rw [hP]; exact (calls_cons (RRail_s _ _ _) (calls_cons (First_s _ _ (by simp)) calls_nil)))) rfl ?_ ?_; rotate_left 1)
                  · repeat first | refine lwp_seq fun K hK => ?_ | (with_reducible refine gA ?_; apply_assumption -exfalso -symm) | refine Stp.h ?_ | refine gF rfl ?_ | refine gG rfl ?_ | refine gM hC rfl sd ?_
                    refine gA ⟨k + 1, ?_, ?_, sub_intro hm [(0, some 0), (1, some 1), (2, some 2), (3, some 3), (4, some 4)] rfl ?_⟩
                    · omega
                    · omega
                    · rw [railsL_take _ _ (by omega), ← one_step]
                      exact sd
                  · exact sd
                · obtain rfl : k = l.length := by omega
                  rw [List.take_of_length_le (Nat.le_refl _)]
                  clear hb hk
                  repeat first | refine lwp_seq fun K hK => ?_ | (with_reducible refine gA ?_; apply_assumption -exfalso -symm) | refine Stp.h ?_ | refine gF rfl ?_ | refine gG rfl ?_ | refine gM hC rfl sd ?_
                  (refine lwp_region hC ⟨[], [], [(2, RGrow_i g), (4, First_i [firstS [manyE l, firstS (railsL l)], growS g] [(0, some 5)])]⟩ (told1 _ (by rw [hP]; exact (calls_cons (RGrow_s _) (calls_cons (First_s _ _ (by simp)) calls_nil)))) rfl ?_ ?_; rotate_left 1)
                  · rw [one_end, show firstS [manyE l, firstS [firstS (railsL l), growS g]] = oneE l g from rfl]
                    ((with_reducible refine gA ?_); apply_assumption -exfalso -symm)
                    refine lwp_seq fun K hK => ?_
                    (refine lwp_region hC ⟨[], [], []⟩ (told0 _ _) rfl ?_ ?_; rotate_left 1)
                    · ((with_reducible refine gA ?_); apply_assumption -exfalso -symm)
                      refine lwp_cut (t := ⟨[(0, .sl 2 l.length), (1, i64 g), (5, .ptr 3 0 0 0), (10, .ptr 4 0 0 0), (11, i64 (joinS l g).2), (12, i64 (joinS l g).2), (15, .ptr 5 0 0 0)], [(5, .blk 82 [i64 (joinS l g).1.1, i64 (joinS l g).1.2]), (4, .blk 82 [i64 (joinS l g).1.1, i64 (joinS l g).1.2]), (3, .blk 90 [i64 a, i64 b]), (2, .ro l.length 3 (z3C l)), (0, pwC), (1, kdC)], 6⟩) ?_ ?_
                      · repeat first | refine lwp_seq fun K hK => ?_ | (with_reducible refine gA ?_; apply_assumption -exfalso -symm) | refine Stp.h ?_ | refine gF rfl ?_ | refine gG rfl ?_ | refine gM hC rfl sd ?_
                        refine lwp_condS hC rfl sd ?_ ?_ <;> intro hb
                        · repeat first | refine lwp_seq fun K hK => ?_ | (with_reducible refine gA ?_; apply_assumption -exfalso -symm) | refine Stp.h ?_ | refine gF rfl ?_ | refine gG rfl ?_ | refine gM hC rfl sd ?_
                          (refine lwp_region hC ⟨[], [], [(2, RJoin_i l g [(0, some 2)])]⟩ (told1 _ (by rw [hP]; exact (calls_cons (RJoin_s _ _ _ hb) calls_nil))) rfl ?_ ?_; rotate_left 1)
                          · repeat first | refine lwp_seq fun K hK => ?_ | (with_reducible refine gA ?_; apply_assumption -exfalso -symm) | refine Stp.h ?_ | refine gF rfl ?_ | refine gG rfl ?_ | refine gM hC rfl sd ?_
                            refine gA (sub_intro hm [(0, some 0), (1, some 1), (2, some 2), (3, some 3), (4, some 4), (5, some 6)] rfl ?_)
                            exact sd
                          · exact sd
                        · have e : joinS l g = ((0, 0), oneE l g) := if_neg hb
                          repeat first | refine lwp_seq fun K hK => ?_ | (with_reducible refine gA ?_; apply_assumption -exfalso -symm) | refine Stp.h ?_ | refine gF rfl ?_ | refine gG rfl ?_ | refine gM hC rfl sd ?_
                          rw [e]
                          refine gA (sub_intro hm [(0, some 0), (1, some 1), (2, some 2), (3, some 3), (4, some 4), (5, some 6)] rfl ?_)
                          exact sd
                      · repeat first | refine lwp_seq fun K hK => ?_ | (with_reducible refine gA ?_; apply_assumption -exfalso -symm) | refine Stp.h ?_ | refine gF rfl ?_ | refine gG rfl ?_ | refine gM hC rfl ⟨⟩ ?_
                        (refine lwp_region hC ⟨[(3, { b := some false }), (8, { b := some false })], [(2, custRatN)], []⟩ ⟨(fun p hp => by rcases List.mem_cons.1 hp with rfl | hp; rw [hP]; exact custRatN_ok; cases hp), (fun _ h => (by cases h))⟩ rfl ?_ ?_; rotate_left 1)
                        · repeat first | refine lwp_seq fun K hK => ?_ | (with_reducible refine gA ?_; apply_assumption -exfalso -symm) | refine Stp.h ?_ | refine gF rfl ?_ | refine gG rfl ?_ | refine gM hC rfl ⟨⟩ ?_
                          refine lwp_condS hC rfl sd ?_ ?_ <;> intro hb
                          · have h0 : (l.length : Int) = 0 := of_decide_eq_true hb
                            clear hb
                            repeat first | refine lwp_seq fun K hK => ?_ | (with_reducible refine gA ?_; apply_assumption -exfalso -symm) | refine Stp.h ?_ | refine gF rfl ?_ | refine gG rfl ?_ | refine gM hC rfl ⟨⟩ ?_
                            (refine lwp_region hC ⟨[(3, { b := some true }), (8, { b := some true })], [(2, custRat)], [(9, Awake_i)]⟩ ⟨(fun p hp => by rcases List.mem_cons.1 hp with rfl | hp; rw [hP]; exact custRat_ok; cases hp), (by rw [hP]; exact (calls_cons (Awake_s) calls_nil))⟩ rfl ?_ ?_; rotate_left 1)
                            · repeat first | refine lwp_seq fun K hK => ?_ | (with_reducible refine gA ?_; apply_assumption -exfalso -symm) | refine Stp.h ?_ | refine gF rfl ?_ | refine gG rfl ?_ | refine gM hC rfl sd ?_
                              (refine end_intro (by first | exact .inr rfl | exact .inl rfl) [] rfl ?_)
                              exact ⟨rfl, trivial⟩
                            · simp [AllL, All]
                          · have h0 : ¬ (l.length : Int) = 0 := of_decide_eq_false hb
                            clear hb
                            repeat first | refine lwp_seq fun K hK => ?_ | (with_reducible refine gA ?_; apply_assumption -exfalso -symm) | refine Stp.h ?_ | refine gF rfl ?_ | refine gG rfl ?_ | refine gM hC rfl ⟨⟩ ?_
                            (refine lwp_drawn hC (by rw [hP]; exact mixed) ⟨[], [], [(10, Pull_i (l.getD 0 z3D).x (l.getD 0 z3D).y g a b)]⟩ (told1 _ (by rw [hP]; exact (calls_cons (Pull_s _ _ _ _ _) calls_nil))) [0, 1, 3, 7, 0, 16, 48, 112, 0, 0, 1023, 2047, 4095, 4095, 8191, 32767] 15 rfl ?_ ?_; rotate_left 1)
                            · repeat first | refine lwp_seq fun K hK => ?_ | (with_reducible refine gA ?_; apply_assumption -exfalso -symm) | refine Stp.h ?_ | refine gF rfl ?_ | refine gG rfl ?_ | refine gM hC rfl ⟨⟩ ?_
                              (refine lwp_drawn hC (by rw [hP]; exact mixed) ⟨[], [], [(9, RRail_i (l.getD 0 z3D).x (l.getD 0 z3D).y 0), (11, RGrow_i g), (13, RBand_i a b), (15, First_i [railS (l.getD 0 z3D).x (l.getD 0 z3D).y 0, growS g, bandS a b] [(0, some 6)])]⟩ (told1 _ (by rw [hP]; exact (calls_cons (RRail_s _ _ _) (calls_cons (RGrow_s _) (calls_cons (RBand_s _ _) (calls_cons (First_s _ _ (by simp)) calls_nil)))))) [0, 1, 3, 7, 0, 16, 48, 112, 255, 511, 0, 2047, 0, 8191, 16383, 32767, 65535] 13 rfl ?_ ?_; rotate_left 1)
                              · repeat first | refine lwp_seq fun K hK => ?_ | (with_reducible refine gA ?_; apply_assumption -exfalso -symm) | refine Stp.h ?_ | refine gF rfl ?_ | refine gG rfl ?_ | refine gM hC rfl sd ?_
                                refine lwp_condS hC rfl sd ?_ ?_ <;> intro hb
                                · repeat first | refine lwp_seq fun K hK => ?_ | (with_reducible refine gA ?_; apply_assumption -exfalso -symm) | refine Stp.h ?_ | refine gF rfl ?_ | refine gG rfl ?_ | refine gM hC rfl ⟨⟩ ?_
                                  (refine lwp_drawn hC (by rw [hP]; exact mixed) ⟨[], [], [(10, RPull_i (l.getD 0 z3D).x (l.getD 0 z3D).y g a b)]⟩ (told1 _ (by rw [hP]; exact (calls_cons (RPull_s _ _ _ _ _ hb) calls_nil))) [0, 1, 3, 7, 0, 16, 48, 112, 0, 0, 1023, 2047, 4095, 4095, 8191, 32767] 15 rfl ?_ ?_; rotate_left 1)
                                  · repeat first | refine lwp_seq fun K hK => ?_ | (with_reducible refine gA ?_; apply_assumption -exfalso -symm) | refine Stp.h ?_ | refine gF rfl ?_ | refine gG rfl ?_ | refine gM hC rfl ⟨⟩ ?_
                                    (refine lwp_region hC ⟨[(3, { b := some true }), (8, { b := some true })], [], [(9, Awake_i)]⟩ (told1 _ (by rw [hP]; exact (calls_cons (Awake_s) calls_nil))) rfl ?_ ?_; rotate_left 1)
                                    · repeat first | refine lwp_seq fun K hK => ?_ | (with_reducible refine gA ?_; apply_assumption -exfalso -symm) | refine Stp.h ?_ | refine gF rfl ?_ | refine gG rfl ?_ | refine gM hC rfl sd ?_
                                      (refine end_intro (by first | exact .inr rfl | exact .inl rfl) [] rfl ?_)
                                      exact ⟨rfl, trivial⟩
                                    · simp [AllL, All]
                                  · exact sd
                                · have e := pullS_bad hb
                                  repeat first | refine lwp_seq fun K hK => ?_ | (with_reducible refine gA ?_; apply_assumption -exfalso -symm) | refine Stp.h ?_ | refine gF rfl ?_ | refine gG rfl ?_ | refine gM hC rfl ⟨⟩ ?_
                                  (refine lwp_region hC ⟨[(3, { b := some true }), (8, { b := some true })], [], [(9, Awake_i)]⟩ (told1 _ (by rw [hP]; exact (calls_cons (Awake_s) calls_nil))) rfl ?_ ?_; rotate_left 1)
                                  · repeat first | refine lwp_seq fun K hK => ?_ | (with_reducible refine gA ?_; apply_assumption -exfalso -symm) | refine Stp.h ?_ | refine gF rfl ?_ | refine gG rfl ?_ | refine gM hC rfl sd ?_
                                    (refine end_intro (by first | exact .inr rfl | exact .inl rfl) [] rfl ?_)
                                    exact ⟨rfl, trivial⟩
                                  · rw [e]
                                    simp [AllL, All, argE]
                              · exact sd
                            · exact sd
                        · simp [AllL, All]
                    · exact sd
                  · exact sd
          · exact sd
        · exact sd

end Go.Proofs.YtccddhoeampdjaaGreatDoor
