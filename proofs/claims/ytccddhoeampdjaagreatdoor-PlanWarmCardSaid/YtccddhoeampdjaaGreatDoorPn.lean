/- PlanWarm: the law. -/
import Derived.Test.YtccddhoeampdjaaGreatDoorPm
set_option linter.unusedVariables false
set_option linter.unusedSimpArgs false
namespace Go.Proofs.YtccddhoeampdjaaGreatDoor
open Go.RowKit Go.Sym

theorem neu_rt {L H E g : Int} (hr : railS L H E = 0) (hg : growS g = 0) : neuS L H E g = rtS (heatZ L H E g) L := by
  have hz : nRailE L H E g = 0 := by
    unfold nRailE
    rw [firstS_cons, firstS_cons]
    exact ⟨hr, hg, rfl⟩
  exact if_pos hz
theorem join_rt {L1 H1 E1 L2 H2 E2 g : Int} (h1 : railS L1 H1 E1 = 0) (h2 : railS L2 H2 E2 = 0) (hg : growS g = 0) : joinS [⟨L1, H1, E1⟩, ⟨L2, H2, E2⟩] g = rtS (heatZ L1 H1 E1 g + heatZ L2 H2 E2 g) (L1 + L2) := by
  have hz : oneE [⟨L1, H1, E1⟩, ⟨L2, H2, E2⟩] g = 0 := by
    unfold oneE manyE railsL railOf
    simp only [List.map_cons, List.map_nil, firstS, h1, h2, hg, whenS]
    rfl
  have e : joinS [⟨L1, H1, E1⟩, ⟨L2, H2, E2⟩] g = rtS (sumZ (heatsL g [⟨L1, H1, E1⟩, ⟨L2, H2, E2⟩])) (sumZ (lensL [⟨L1, H1, E1⟩, ⟨L2, H2, E2⟩])) := if_pos hz
  rw [e]
  simp only [heatsL, lensL, List.map_cons, List.map_nil, sumZ, Int.add_zero]
theorem rtS_small {n d : Int} (h : rtBig n d = false) : rtS n d = ((rtN n d, rtD n d), 0) := if_neg (by rw [h]; decide)
theorem rtS_two {n d : Int} : decide ((rtS n d).2 = 4) = rtBig n d := by
  unfold rtS
  cases h : rtBig n d <;> simp
theorem rt_in {n d : Int} (hd : 1 ≤ d) (h : rtBig n d = false) : (-999999999 ≤ rtN n d ∧ rtN n d ≤ 999999999) ∧ 1 ≤ rtD n d ∧ rtD n d ≤ 999999999 := by
  have h1 := of_decide_eq_false h
  have h2 := (rtB (n := n) hd).dp
  omega
theorem cmp_not {x y z w : Int} (h : x * w ≤ z * y) : cmpZ x y z w ≤ 0 := by
  unfold cmpZ; split <;> (try split) <;> omega
def LawWa_i (L1 H1 E1 L2 H2 E2 g lo hi : Int) : Inst := { f := 13, gl := lawG, hin := [(0, pwC), (1, kdC)], args := [.agg [i64 L1, i64 H1, i64 E1], .agg [i64 L2, i64 H2, i64 E2], .agg [i64 g, i64 lo, i64 hi]], hout := [], ret := bl true, σ := [] }
set_option maxRecDepth 20000 in
set_option maxHeartbeats 4000000 in
theorem LawWa_s (L1 H1 E1 L2 H2 E2 g lo hi : Int) : (LawWa_i L1 H1 E1 L2 H2 E2 g lo hi).ok Tryz.prog := by
  unfold LawWa_i Inst.ok; dsimp only; refine spec_of_body (tys := tys) 2 Tryz.func13 (by kernel_rfl) rfl tys_ok rfl (Nat.le_of_ble_eq_true rfl) (fun g i h => by simp only [List.mem_cons, List.not_mem_nil, or_false, Prod.mk.injEq] at h; omega) fun F hP hm hC hrd => ?_; conv => whnf
  repeat first | refine lwp_seq fun K hK => ?_ | (with_reducible refine gA ?_; apply_assumption -exfalso -symm) | refine Stp.h ?_ | refine gF rfl ?_ | refine gG rfl ?_ | refine gM hC rfl ⟨⟩ ?_
  by_cases c1 : railS L1 H1 E1 = 0
  · by_cases c2 : railS L2 H2 E2 = 0
    · by_cases c3 : growS g = 0
      · by_cases c4 : bandS lo hi = 0
        · have hW := warmB c1 c3 c4
          (refine lwp_region hC ⟨[(3, { b := some false }), (8, { b := some false }), (14, { b := some false })], [], [(1, RRail_i L1 H1 E1), (5, RRail_i L2 H2 E2), (11, RGrow_i g), (17, RBand_i lo hi)]⟩ (told1 _ (by rw [hP]; exact (calls_cons (RRail_s _ _ _) (calls_cons (RRail_s _ _ _) (calls_cons (RGrow_s _) (calls_cons (RBand_s _ _) calls_nil)))))) rfl ?_ ?_; rotate_left 1)
          · repeat first | refine lwp_seq fun K hK => ?_ | (with_reducible refine gA ?_; apply_assumption -exfalso -symm) | refine Stp.h ?_ | refine gF rfl ?_ | refine gG rfl ?_ | refine gM hC rfl ⟨⟩ ?_
            refine lwp_condS hC rfl sd ?_ ?_ <;> intro hb
            · exfalso; simp_all
            · clear hb
              repeat first | refine lwp_seq fun K hK => ?_ | (with_reducible refine gA ?_; apply_assumption -exfalso -symm) | refine Stp.h ?_ | refine gF rfl ?_ | refine gG rfl ?_ | refine gM hC rfl ⟨⟩ ?_
              (refine lwp_region hC ⟨[], [], [(8, Pull_i L1 H1 g lo hi)]⟩ (told1 _ (by rw [hP]; exact (calls_cons (Pull_s _ _ _ _ _) calls_nil))) rfl ?_ ?_; rotate_left 1)
              · ((with_reducible refine gA ?_); apply_assumption -exfalso -symm)
                refine lwp_cut (t := ⟨[(3, .ptr 2 0 0 0), (4, .ptr 3 0 0 0), (5, .ptr 4 0 0 0)], [(4, .blk 142 [i64 g, i64 lo, i64 hi]), (3, .blk 88 [i64 L2, i64 H2, i64 E2]), (2, .blk 88 [i64 L1, i64 H1, i64 E1]), (0, pwC), (1, kdC)], 5⟩) ?_ ?_
                · rcases pull_three hW with ⟨hH, e⟩ | ⟨hbad, e⟩ | ⟨hn, hin, e⟩
                  · rw [e]
                    repeat first | refine lwp_seq fun K hK => ?_ | (with_reducible refine gA ?_; apply_assumption -exfalso -symm) | refine Stp.h ?_ | refine gF rfl ?_ | refine gG rfl ?_ | refine gM hC rfl sd ?_
                    refine lwp_condS hC rfl sd ?_ ?_ <;> intro hb
                    · exact absurd hb (by decide)
                    · clear hb
                      repeat first | refine lwp_seq fun K hK => ?_ | (with_reducible refine gA ?_; apply_assumption -exfalso -symm) | refine Stp.h ?_ | refine gF rfl ?_ | refine gG rfl ?_ | refine gM hC rfl sd ?_
                      refine lwp_condS hC rfl sd ?_ ?_ <;> intro hb
                      · clear hb
                        repeat first | refine lwp_seq fun K hK => ?_ | (with_reducible refine gA ?_; apply_assumption -exfalso -symm) | refine Stp.h ?_ | refine gF rfl ?_ | refine gG rfl ?_ | refine gM hC rfl sd ?_
                        refine lwp_condS hC rfl sd ?_ ?_ <;> intro hb
                        · exact absurd hb (by omega)
                        · repeat first | refine lwp_seq fun K hK => ?_ | (with_reducible refine gA ?_; apply_assumption -exfalso -symm) | refine Stp.h ?_ | refine gF rfl ?_ | refine gG rfl ?_ | refine gM hC rfl sd ?_
                          refine gA (sub_intro hm [(0, some 0), (1, some 1), (2, some 2), (3, some 3), (4, some 4)] rfl ?_)
                          exact sd
                      · exact absurd rfl hb
                  · rw [e]
                    repeat first | refine lwp_seq fun K hK => ?_ | (with_reducible refine gA ?_; apply_assumption -exfalso -symm) | refine Stp.h ?_ | refine gF rfl ?_ | refine gG rfl ?_ | refine gM hC rfl sd ?_
                    refine lwp_condS hC rfl sd ?_ ?_ <;> intro hb
                    · exact absurd hb (by decide)
                    · clear hb
                      repeat first | refine lwp_seq fun K hK => ?_ | (with_reducible refine gA ?_; apply_assumption -exfalso -symm) | refine Stp.h ?_ | refine gF rfl ?_ | refine gG rfl ?_ | refine gM hC rfl sd ?_
                      refine lwp_condS hC rfl sd ?_ ?_ <;> intro hb
                      · exact absurd hb (by decide)
                      · clear hb
                        repeat first | refine lwp_seq fun K hK => ?_ | (with_reducible refine gA ?_; apply_assumption -exfalso -symm) | refine Stp.h ?_ | refine gF rfl ?_ | refine gG rfl ?_ | refine gM hC rfl sd ?_
                        refine lwp_condS hC rfl sd ?_ ?_ <;> intro hb
                        · clear hb
                          have k1 := hW.b1
                          have k2 := hW.b2
                          have k3 := hW.b3
                          have k4 := hW.p.b4
                          have k5 := mul_in (x := lo - H1) (y := L1) (A := 2000) (B := 1000000) (by omega) (by omega)
                          have k6 := tdiv_in ((lo - H1) * L1) g 2000000000 (by omega)
                          repeat first | refine lwp_seq fun K hK => ?_ | (with_reducible refine gA ?_; apply_assumption -exfalso -symm) | refine Stp.h ?_ | refine gF rfl ?_ | refine gG rfl ?_ | refine gM hC rfl ⟨⟩ ?_
                          (refine lwp_region hC ⟨[], [], []⟩ (told0 _ _) rfl ?_ ?_; rotate_left 1)
                          · obtain ⟨A, hA⟩ : ∃ A, ((lo - H1) * L1).tdiv g = A := ⟨_, rfl⟩
                            rw [hA] at k6 ⊢
                            clear k5 hA
                            repeat first | refine lwp_seq fun K hK => ?_ | (with_reducible refine gA ?_; apply_assumption -exfalso -symm) | refine Stp.h ?_ | refine gF rfl ?_ | refine gG rfl ?_ | refine gM hC rfl sd ?_
                            rw [max0]
                            refine lwp_loop (fun k : Nat => ⟨[(14, i64 k), (13, i64 A), (3, .ptr 2 0 0 0), (4, .ptr 3 0 0 0), (5, .ptr 4 0 0 0)], [(4, .blk 142 [i64 g, i64 lo, i64 hi]), (3, .blk 88 [i64 L2, i64 H2, i64 E2]), (2, .blk 88 [i64 L1, i64 H1, i64 E1]), (0, pwC), (1, kdC)], 5⟩) (fun k => True) (fun k => L1.toNat + 1 - k) (max 0 (A - 2)).toNat ⟨?_, sub_intro hm [(0, some 0), (1, some 1), (2, some 2), (3, some 3), (4, some 4)] rfl ?_⟩ ?_
                            · trivial
                            · exact sd
                            · rintro k -
                              repeat first | refine lwp_seq fun K hK => ?_ | (with_reducible refine gA ?_; apply_assumption -exfalso -symm) | refine Stp.h ?_ | refine gF rfl ?_ | refine gG rfl ?_ | refine gM hC rfl sd ?_
                              refine lwp_condS hC rfl sd ?_ ?_ <;> intro hb
                              · have hkL : (k : Int) ≤ L1 := by split at hb <;> omega
                                clear hb
                                repeat first | refine lwp_seq fun K hK => ?_ | (with_reducible refine gA ?_; apply_assumption -exfalso -symm) | refine Stp.h ?_ | refine gF rfl ?_ | refine gG rfl ?_ | refine gM hC rfl sd ?_
                                (refine lwp_region hC ⟨[], [], [(10, InB_i L1 H1 k g lo hi)]⟩ (told1 _ (by rw [hP]; exact (calls_cons (InB_s _ _ _ _ _ _) calls_nil))) rfl ?_ ?_; rotate_left 1)
                                · rw [hW.inb ⟨by omega, hkL⟩, warm_none hW hbad ⟨by omega, hkL⟩]
                                  repeat first | refine lwp_seq fun K hK => ?_ | (with_reducible refine gA ?_; apply_assumption -exfalso -symm) | refine Stp.h ?_ | refine gF rfl ?_ | refine gG rfl ?_ | refine gM hC rfl sd ?_
                                  refine lwp_condS hC rfl sd ?_ ?_ <;> intro hb
                                  · exact absurd hb (by decide)
                                  · repeat first | refine lwp_seq fun K hK => ?_ | (with_reducible refine gA ?_; apply_assumption -exfalso -symm) | refine Stp.h ?_ | refine gF rfl ?_ | refine gG rfl ?_ | refine gM hC rfl sd ?_
                                    refine gA ⟨k + 1, ?_, ?_, sub_intro hm [(0, some 0), (1, some 1), (2, some 2), (3, some 3), (4, some 4)] rfl ?_⟩
                                    · trivial
                                    · omega
                                    · exact sd
                                · exact sd
                              · repeat first | refine lwp_seq fun K hK => ?_ | (with_reducible refine gA ?_; apply_assumption -exfalso -symm) | refine Stp.h ?_ | refine gF rfl ?_ | refine gG rfl ?_ | refine gM hC rfl sd ?_
                                refine gA (sub_intro hm [(0, some 0), (1, some 1), (2, some 2), (3, some 3), (4, some 4)] rfl ?_)
                                exact sd
                          · exact sd
                        · exact absurd rfl hb
                  · rw [e]
                    repeat first | refine lwp_seq fun K hK => ?_ | (with_reducible refine gA ?_; apply_assumption -exfalso -symm) | refine Stp.h ?_ | refine gF rfl ?_ | refine gG rfl ?_ | refine gM hC rfl sd ?_
                    refine lwp_condS hC rfl sd ?_ ?_ <;> intro hb
                    · clear hb
                      repeat first | refine lwp_seq fun K hK => ?_ | (with_reducible refine gA ?_; apply_assumption -exfalso -symm) | refine Stp.h ?_ | refine gF rfl ?_ | refine gG rfl ?_ | refine gM hC rfl sd ?_
                      (refine lwp_region hC ⟨[], [], [(10, InB_i L1 H1 (pullN L1 H1 g lo) g lo hi)]⟩ (told1 _ (by rw [hP]; exact (calls_cons (InB_s _ _ _ _ _ _) calls_nil))) rfl ?_ ?_; rotate_left 1)
                      · rw [hW.inb hn, hin]
                        repeat first | refine lwp_seq fun K hK => ?_ | (with_reducible refine gA ?_; apply_assumption -exfalso -symm) | refine Stp.h ?_ | refine gF rfl ?_ | refine gG rfl ?_ | refine gM hC rfl sd ?_
                        refine lwp_condS hC rfl sd ?_ ?_ <;> intro hb
                        · exact absurd hb (by decide)
                        · clear hb
                          repeat first | refine lwp_seq fun K hK => ?_ | (with_reducible refine gA ?_; apply_assumption -exfalso -symm) | refine Stp.h ?_ | refine gF rfl ?_ | refine gG rfl ?_ | refine gM hC rfl sd ?_
                          refine lwp_condS hC rfl sd ?_ ?_ <;> intro hb
                          · have hl := warm_less hW hb
                            have k1 := hW.b1
                            repeat first | refine lwp_seq fun K hK => ?_ | (with_reducible refine gA ?_; apply_assumption -exfalso -symm) | refine Stp.h ?_ | refine gF rfl ?_ | refine gG rfl ?_ | refine gM hC rfl sd ?_
                            (refine lwp_region hC ⟨[], [], [(11, InB_i L1 H1 (pullN L1 H1 g lo - 1) g lo hi)]⟩ (told1 _ (by rw [hP]; exact (calls_cons (InB_s _ _ _ _ _ _) calls_nil))) rfl ?_ ?_; rotate_left 1)
                            · rw [hW.inb ⟨by omega, by omega⟩, hl]
                              repeat first | refine lwp_seq fun K hK => ?_ | (with_reducible refine gA ?_; apply_assumption -exfalso -symm) | refine Stp.h ?_ | refine gF rfl ?_ | refine gG rfl ?_ | refine gM hC rfl sd ?_
                              refine lwp_condS hC rfl sd ?_ ?_ <;> intro hb
                              · exact absurd hb (by decide)
                              · repeat first | refine lwp_seq fun K hK => ?_ | (with_reducible refine gA ?_; apply_assumption -exfalso -symm) | refine Stp.h ?_ | refine gF rfl ?_ | refine gG rfl ?_ | refine gM hC rfl sd ?_
                                refine gA (sub_intro hm [(0, some 0), (1, some 1), (2, some 2), (3, some 3), (4, some 4)] rfl ?_)
                                exact sd
                            · exact sd
                          · repeat first | refine lwp_seq fun K hK => ?_ | (with_reducible refine gA ?_; apply_assumption -exfalso -symm) | refine Stp.h ?_ | refine gF rfl ?_ | refine gG rfl ?_ | refine gM hC rfl sd ?_
                            refine gA (sub_intro hm [(0, some 0), (1, some 1), (2, some 2), (3, some 3), (4, some 4)] rfl ?_)
                            exact sd
                      · exact sd
                    · exact absurd rfl hb
                · have r1 := (railS_zero c1)
                  have r2 := (railS_zero c2)
                  have d3 : 1 ≤ L1 + L2 := by omega
                  have eN := neu_zero r1.1 r1.2.1 c3
                  have e1 := neu_rt (E := E1) c1 c3
                  have e2 := neu_rt (E := E2) c2 c3
                  have e3 := join_rt c1 c2 c3
                  repeat first | refine lwp_seq fun K hK => ?_ | (with_reducible refine gA ?_; apply_assumption -exfalso -symm) | refine Stp.h ?_ | refine gF rfl ?_ | refine gG rfl ?_ | refine gM hC rfl ⟨⟩ ?_
                  (refine lwp_region hC ⟨[], [], [(7, Neu_i L1 H1 0 g)]⟩ (told1 _ (by rw [hP]; exact (calls_cons (Neu_s _ _ _ _) calls_nil))) rfl ?_ ?_; rotate_left 1)
                  · rw [eN]
                    repeat first | refine lwp_seq fun K hK => ?_ | (with_reducible refine gA ?_; apply_assumption -exfalso -symm) | refine Stp.h ?_ | refine gF rfl ?_ | refine gG rfl ?_ | refine gM hC rfl ⟨⟩ ?_
                    (refine lwp_region hC ⟨[(2, { b := some false })], [(7, custRatN)], []⟩ ⟨(fun p hp => by rcases List.mem_cons.1 hp with rfl | hp; rw [hP]; exact custRatN_ok; cases hp), (fun _ h => (by cases h))⟩ rfl ?_ ?_; rotate_left 1)
                    · repeat first | refine lwp_seq fun K hK => ?_ | (with_reducible refine gA ?_; apply_assumption -exfalso -symm) | refine Stp.h ?_ | refine gF rfl ?_ | refine gG rfl ?_ | refine gM hC rfl ⟨⟩ ?_
                      refine lwp_condS hC rfl sd ?_ ?_ <;> intro hb
                      · exfalso; simp at hb
                      · clear hb
                        repeat first | refine lwp_seq fun K hK => ?_ | (with_reducible refine gA ?_; apply_assumption -exfalso -symm) | refine Stp.h ?_ | refine gF rfl ?_ | refine gG rfl ?_ | refine gM hC rfl ⟨⟩ ?_
                        (refine lwp_region hC ⟨[], [], [(3, Neu_i L1 H1 E1 g)]⟩ (told1 _ (by rw [hP]; exact (calls_cons (Neu_s _ _ _ _) calls_nil))) rfl ?_ ?_; rotate_left 1)
                        · rw [e1]
                          repeat first | refine lwp_seq fun K hK => ?_ | (with_reducible refine gA ?_; apply_assumption -exfalso -symm) | refine Stp.h ?_ | refine gF rfl ?_ | refine gG rfl ?_ | refine gM hC rfl ⟨⟩ ?_
                          (refine lwp_region hC ⟨[], [], [(3, Neu_i L2 H2 E2 g)]⟩ (told1 _ (by rw [hP]; exact (calls_cons (Neu_s _ _ _ _) calls_nil))) rfl ?_ ?_; rotate_left 1)
                          · rw [e2]
                            repeat first | refine lwp_seq fun K hK => ?_ | (with_reducible refine gA ?_; apply_assumption -exfalso -symm) | refine Stp.h ?_ | refine gF rfl ?_ | refine gG rfl ?_ | refine gM hC rfl ⟨⟩ ?_
                            (refine lwp_region hC ⟨[], [], [(5, Join_i [⟨L1, H1, E1⟩, ⟨L2, H2, E2⟩] g [(0, some 11)])]⟩ (told1 _ (by rw [hP]; exact (calls_cons (Join_s _ _ _ (by simp)) calls_nil))) rfl ?_ ?_; rotate_left 1)
                            · rw [e3]
                              repeat first | refine lwp_seq fun K hK => ?_ | (with_reducible refine gA ?_; apply_assumption -exfalso -symm) | refine Stp.h ?_ | refine gF rfl ?_ | refine gG rfl ?_ | refine gM hC rfl ⟨⟩ ?_
                              (refine lwp_region hC ⟨[], [], []⟩ (told0 _ _) rfl ?_ ?_; rotate_left 1)
                              · rw [rtS_two, rtS_two, rtS_two]
                                repeat first | refine lwp_seq fun K hK => ?_ | (with_reducible refine gA ?_; apply_assumption -exfalso -symm) | refine Stp.h ?_ | refine gF rfl ?_ | refine gG rfl ?_ | refine gM hC rfl ⟨⟩ ?_
                                refine lwp_condS hC rfl sd ?_ ?_ <;> intro hb
                                · repeat first | refine lwp_seq fun K hK => ?_ | (with_reducible refine gA ?_; apply_assumption -exfalso -symm) | refine Stp.h ?_ | refine gF rfl ?_ | refine gG rfl ?_ | refine gM hC rfl ⟨⟩ ?_
                                  (refine lwp_region hC ⟨[], [], [(0, Awake_i)]⟩ (told1 _ (by rw [hP]; exact (calls_cons (Awake_s) calls_nil))) rfl ?_ ?_; rotate_left 1)
                                  · repeat first | refine lwp_seq fun K hK => ?_ | (with_reducible refine gA ?_; apply_assumption -exfalso -symm) | refine Stp.h ?_ | refine gF rfl ?_ | refine gG rfl ?_ | refine gM hC rfl sd ?_
                                    (refine end_intro (by first | exact .inr rfl | exact .inl rfl) [] rfl ?_)
                                    exact ⟨rfl, trivial⟩
                                  · exact sd
                                · obtain ⟨q1, q2, q3⟩ : rtBig (heatZ L1 H1 E1 g) L1 = false ∧ rtBig (heatZ L2 H2 E2 g) L2 = false ∧ rtBig (heatZ L1 H1 E1 g + heatZ L2 H2 E2 g) (L1 + L2) = false := by
                                    revert hb
                                    cases rtBig (heatZ L1 H1 E1 g) L1 <;> cases rtBig (heatZ L2 H2 E2 g) L2 <;> cases rtBig (heatZ L1 H1 E1 g + heatZ L2 H2 E2 g) (L1 + L2) <;> simp
                                  clear hb
                                  rw [rtS_small q1, rtS_small q2, rtS_small q3]
                                  have s1 := rt_ratio r1.1.1 q1
                                  have s2 := rt_ratio r2.1.1 q2
                                  have s3 := rt_ratio d3 q3
                                  have i1 := rt_in r1.1.1 q1
                                  have i2 := rt_in r2.1.1 q2
                                  have i3 := rt_in d3 q3
                                  have l12 := rt_le (n := heatZ L1 H1 E1 g) (m := heatZ L2 H2 E2 g) r1.1.1 r2.1.1
                                  have l13 := rt_le (n := heatZ L1 H1 E1 g) (m := heatZ L1 H1 E1 g + heatZ L2 H2 E2 g) r1.1.1 d3
                                  have l32 := rt_le (n := heatZ L1 H1 E1 g + heatZ L2 H2 E2 g) (m := heatZ L2 H2 E2 g) d3 r2.1.1
                                  have l21 := rt_le (n := heatZ L2 H2 E2 g) (m := heatZ L1 H1 E1 g) r2.1.1 r1.1.1
                                  have l23 := rt_le (n := heatZ L2 H2 E2 g) (m := heatZ L1 H1 E1 g + heatZ L2 H2 E2 g) r2.1.1 d3
                                  have l31 := rt_le (n := heatZ L1 H1 E1 g + heatZ L2 H2 E2 g) (m := heatZ L1 H1 E1 g) d3 r1.1.1
                                  repeat first | refine lwp_seq fun K hK => ?_ | (with_reducible refine gA ?_; apply_assumption -exfalso -symm) | refine Stp.h ?_ | refine gF rfl ?_ | refine gG rfl ?_ | refine gM hC rfl ⟨⟩ ?_
                                  (refine lwp_region hC ⟨[(6, { b := some false }), (11, { b := some false }), (16, { b := some false })], [], [(8, RRatio_i (rtN (heatZ L1 H1 E1 g) L1) (rtD (heatZ L1 H1 E1 g) L1)), (13, RRatio_i (rtN (heatZ L2 H2 E2 g) L2) (rtD (heatZ L2 H2 E2 g) L2)), (18, RRatio_i (rtN (heatZ L1 H1 E1 g + heatZ L2 H2 E2 g) (L1 + L2)) (rtD (heatZ L1 H1 E1 g + heatZ L2 H2 E2 g) (L1 + L2)))]⟩ (told1 _ (by rw [hP]; exact (calls_cons (RRatio_s _ _) (calls_cons (RRatio_s _ _) (calls_cons (RRatio_s _ _) calls_nil))))) rfl ?_ ?_; rotate_left 1)
                                  · rw [s3]
                                    repeat first | refine lwp_seq fun K hK => ?_ | (with_reducible refine gA ?_; apply_assumption -exfalso -symm) | refine Stp.h ?_ | refine gF rfl ?_ | refine gG rfl ?_ | refine gM hC rfl ⟨⟩ ?_
                                    refine lwp_condS hC rfl sd ?_ ?_ <;> intro hb
                                    · exfalso; simp at hb
                                    · clear hb
                                      repeat first | refine lwp_seq fun K hK => ?_ | (with_reducible refine gA ?_; apply_assumption -exfalso -symm) | refine Stp.h ?_ | refine gF rfl ?_ | refine gG rfl ?_ | refine gM hC rfl ⟨⟩ ?_
                                      (refine lwp_region hC ⟨[], [], [(2, RCmp_i (rtN (heatZ L1 H1 E1 g) L1) (rtD (heatZ L1 H1 E1 g) L1) (rtN (heatZ L2 H2 E2 g) L2) (rtD (heatZ L2 H2 E2 g) L2))]⟩ (told1 _ (by rw [hP]; exact (calls_cons (RCmp_s _ _ _ _ i1.1 i1.2 i2.1 i2.2) calls_nil))) rfl ?_ ?_; rotate_left 1)
                                      · repeat first | refine lwp_seq fun K hK => ?_ | (with_reducible refine gA ?_; apply_assumption -exfalso -symm) | refine Stp.h ?_ | refine gF rfl ?_ | refine gG rfl ?_ | refine gM hC rfl ⟨⟩ ?_
                                        refine lwp_condS hC rfl sd ?_ ?_ <;> intro hb
                                        · have hb := cmpZ_pos.1 hb
                                          have hB := between (l21.1 (by omega))
                                          have f1 := cmp_not (l23.2 (by rw [Int.add_comm L1 L2, Int.add_comm (heatZ L1 H1 E1 g)]; exact hB.1))
                                          have f2 := cmp_not (l31.2 (by rw [Int.add_comm L1 L2, Int.add_comm (heatZ L1 H1 E1 g)]; exact hB.2))
                                          repeat first | refine lwp_seq fun K hK => ?_ | (with_reducible refine gA ?_; apply_assumption -exfalso -symm) | refine Stp.h ?_ | refine gF rfl ?_ | refine gG rfl ?_ | refine gM hC rfl ⟨⟩ ?_
                                          (refine lwp_region hC ⟨[(4, { b := some true }), (10, { b := some true })], [], [(2, RCmp_i (rtN (heatZ L2 H2 E2 g) L2) (rtD (heatZ L2 H2 E2 g) L2) (rtN (heatZ L1 H1 E1 g + heatZ L2 H2 E2 g) (L1 + L2)) (rtD (heatZ L1 H1 E1 g + heatZ L2 H2 E2 g) (L1 + L2))), (7, RCmp_i (rtN (heatZ L1 H1 E1 g + heatZ L2 H2 E2 g) (L1 + L2)) (rtD (heatZ L1 H1 E1 g + heatZ L2 H2 E2 g) (L1 + L2)) (rtN (heatZ L1 H1 E1 g) L1) (rtD (heatZ L1 H1 E1 g) L1)), (11, Awake_i)]⟩ (told1 _ (by rw [hP]; exact (calls_cons (RCmp_s _ _ _ _ i2.1 i2.2 i3.1 i3.2) (calls_cons (RCmp_s _ _ _ _ i3.1 i3.2 i1.1 i1.2) (calls_cons (Awake_s) calls_nil))))) rfl ?_ ?_; rotate_left 1)
                                          · repeat first | refine lwp_seq fun K hK => ?_ | (with_reducible refine gA ?_; apply_assumption -exfalso -symm) | refine Stp.h ?_ | refine gF rfl ?_ | refine gG rfl ?_ | refine gM hC rfl sd ?_
                                            (refine end_intro (by first | exact .inr rfl | exact .inl rfl) [] rfl ?_)
                                            exact ⟨rfl, trivial⟩
                                          · clear l12 l13 l32 l21 l23 l31 i1 i2 i3 hB hb
                                            simp [AllL, All, f1, f2]
                                        · have hb : ¬ _ := fun h => hb (cmpZ_pos.2 h)
                                          have hB := between (l12.1 (by omega))
                                          have f1 := cmp_not (l13.2 hB.1)
                                          have f2 := cmp_not (l32.2 hB.2)
                                          repeat first | refine lwp_seq fun K hK => ?_ | (with_reducible refine gA ?_; apply_assumption -exfalso -symm) | refine Stp.h ?_ | refine gF rfl ?_ | refine gG rfl ?_ | refine gM hC rfl ⟨⟩ ?_
                                          (refine lwp_region hC ⟨[(4, { b := some true }), (10, { b := some true })], [], [(2, RCmp_i (rtN (heatZ L1 H1 E1 g) L1) (rtD (heatZ L1 H1 E1 g) L1) (rtN (heatZ L1 H1 E1 g + heatZ L2 H2 E2 g) (L1 + L2)) (rtD (heatZ L1 H1 E1 g + heatZ L2 H2 E2 g) (L1 + L2))), (7, RCmp_i (rtN (heatZ L1 H1 E1 g + heatZ L2 H2 E2 g) (L1 + L2)) (rtD (heatZ L1 H1 E1 g + heatZ L2 H2 E2 g) (L1 + L2)) (rtN (heatZ L2 H2 E2 g) L2) (rtD (heatZ L2 H2 E2 g) L2)), (11, Awake_i)]⟩ (told1 _ (by rw [hP]; exact (calls_cons (RCmp_s _ _ _ _ i1.1 i1.2 i3.1 i3.2) (calls_cons (RCmp_s _ _ _ _ i3.1 i3.2 i2.1 i2.2) (calls_cons (Awake_s) calls_nil))))) rfl ?_ ?_; rotate_left 1)
                                          · repeat first | refine lwp_seq fun K hK => ?_ | (with_reducible refine gA ?_; apply_assumption -exfalso -symm) | refine Stp.h ?_ | refine gF rfl ?_ | refine gG rfl ?_ | refine gM hC rfl sd ?_
                                            (refine end_intro (by first | exact .inr rfl | exact .inl rfl) [] rfl ?_)
                                            exact ⟨rfl, trivial⟩
                                          · clear l12 l13 l32 l21 l23 l31 i1 i2 i3 hB hb
                                            simp [AllL, All, f1, f2]
                                      · exact sd
                                  · clear l12 l13 l32 l21 l23 l31 i1 i2 i3
                                    simp [AllL, All, InK, s1, s2, s3]
                              · exact sd
                            · have hz := z3C_cells [⟨L1, H1, E1⟩, ⟨L2, H2, E2⟩]
                              simp [AllL, All, hz, z3V, Cont.cells]
                          · exact sd
                        · exact sd
                    · simp [AllL, All]
                  · exact sd
              · exact sd
          · simp [AllL, All, *]
        · (refine lwp_region hC ⟨[(3, { b := some false }), (8, { b := some false }), (14, { b := some false })], [], [(1, RRail_i L1 H1 E1), (5, RRail_i L2 H2 E2), (11, RGrow_i g), (17, RBand_i lo hi)]⟩ (told1 _ (by rw [hP]; exact (calls_cons (RRail_s _ _ _) (calls_cons (RRail_s _ _ _) (calls_cons (RGrow_s _) (calls_cons (RBand_s _ _) calls_nil)))))) rfl ?_ ?_; rotate_left 1)
          · repeat first | refine lwp_seq fun K hK => ?_ | (with_reducible refine gA ?_; apply_assumption -exfalso -symm) | refine Stp.h ?_ | refine gF rfl ?_ | refine gG rfl ?_ | refine gM hC rfl ⟨⟩ ?_
            refine lwp_condS hC rfl sd ?_ ?_ <;> intro hb
            · repeat first | refine lwp_seq fun K hK => ?_ | (with_reducible refine gA ?_; apply_assumption -exfalso -symm) | refine Stp.h ?_ | refine gF rfl ?_ | refine gG rfl ?_ | refine gM hC rfl ⟨⟩ ?_
              (refine lwp_region hC ⟨[], [], [(0, Awake_i)]⟩ (told1 _ (by rw [hP]; exact (calls_cons (Awake_s) calls_nil))) rfl ?_ ?_; rotate_left 1)
              · repeat first | refine lwp_seq fun K hK => ?_ | (with_reducible refine gA ?_; apply_assumption -exfalso -symm) | refine Stp.h ?_ | refine gF rfl ?_ | refine gG rfl ?_ | refine gM hC rfl sd ?_
                (refine end_intro (by first | exact .inr rfl | exact .inl rfl) [] rfl ?_)
                exact ⟨rfl, trivial⟩
              · exact sd
            · exfalso; simp_all
          · simp [AllL, All, *]
      · (refine lwp_region hC ⟨[(3, { b := some false }), (8, { b := some false }), (14, { b := some true }), (15, { g := some false }), (16, { g := some false }), (17, { g := some false }), (18, { g := some false })], [], [(1, RRail_i L1 H1 E1), (5, RRail_i L2 H2 E2), (11, RGrow_i g)]⟩ (told1 _ (by rw [hP]; exact (calls_cons (RRail_s _ _ _) (calls_cons (RRail_s _ _ _) (calls_cons (RGrow_s _) calls_nil))))) rfl ?_ ?_; rotate_left 1)
        · repeat first | refine lwp_seq fun K hK => ?_ | (with_reducible refine gA ?_; apply_assumption -exfalso -symm) | refine Stp.h ?_ | refine gF rfl ?_ | refine gG rfl ?_ | refine gM hC rfl ⟨⟩ ?_
          refine lwp_condS hC rfl sd ?_ ?_ <;> intro hb
          · repeat first | refine lwp_seq fun K hK => ?_ | (with_reducible refine gA ?_; apply_assumption -exfalso -symm) | refine Stp.h ?_ | refine gF rfl ?_ | refine gG rfl ?_ | refine gM hC rfl ⟨⟩ ?_
            (refine lwp_region hC ⟨[], [], [(0, Awake_i)]⟩ (told1 _ (by rw [hP]; exact (calls_cons (Awake_s) calls_nil))) rfl ?_ ?_; rotate_left 1)
            · repeat first | refine lwp_seq fun K hK => ?_ | (with_reducible refine gA ?_; apply_assumption -exfalso -symm) | refine Stp.h ?_ | refine gF rfl ?_ | refine gG rfl ?_ | refine gM hC rfl sd ?_
              (refine end_intro (by first | exact .inr rfl | exact .inl rfl) [] rfl ?_)
              exact ⟨rfl, trivial⟩
            · exact sd
          · exfalso; simp_all
        · simp [AllL, All, *]
    · (refine lwp_region hC ⟨[(3, { b := some false }), (8, { b := some true }), (9, { g := some false }), (10, { g := some false }), (11, { g := some false }), (12, { g := some false }), (14, { b := some true }), (15, { g := some false }), (16, { g := some false }), (17, { g := some false }), (18, { g := some false })], [], [(1, RRail_i L1 H1 E1), (5, RRail_i L2 H2 E2)]⟩ (told1 _ (by rw [hP]; exact (calls_cons (RRail_s _ _ _) (calls_cons (RRail_s _ _ _) calls_nil)))) rfl ?_ ?_; rotate_left 1)
      · repeat first | refine lwp_seq fun K hK => ?_ | (with_reducible refine gA ?_; apply_assumption -exfalso -symm) | refine Stp.h ?_ | refine gF rfl ?_ | refine gG rfl ?_ | refine gM hC rfl ⟨⟩ ?_
        refine lwp_condS hC rfl sd ?_ ?_ <;> intro hb
        · repeat first | refine lwp_seq fun K hK => ?_ | (with_reducible refine gA ?_; apply_assumption -exfalso -symm) | refine Stp.h ?_ | refine gF rfl ?_ | refine gG rfl ?_ | refine gM hC rfl ⟨⟩ ?_
          (refine lwp_region hC ⟨[], [], [(0, Awake_i)]⟩ (told1 _ (by rw [hP]; exact (calls_cons (Awake_s) calls_nil))) rfl ?_ ?_; rotate_left 1)
          · repeat first | refine lwp_seq fun K hK => ?_ | (with_reducible refine gA ?_; apply_assumption -exfalso -symm) | refine Stp.h ?_ | refine gF rfl ?_ | refine gG rfl ?_ | refine gM hC rfl sd ?_
            (refine end_intro (by first | exact .inr rfl | exact .inl rfl) [] rfl ?_)
            exact ⟨rfl, trivial⟩
          · exact sd
        · exfalso; simp_all
      · simp [AllL, All, *]
  · (refine lwp_region hC ⟨[(3, { b := some true }), (4, { g := some false }), (5, { g := some false }), (6, { g := some false }), (8, { b := some true }), (9, { g := some false }), (10, { g := some false }), (11, { g := some false }), (12, { g := some false }), (14, { b := some true }), (15, { g := some false }), (16, { g := some false }), (17, { g := some false }), (18, { g := some false })], [], [(1, RRail_i L1 H1 E1)]⟩ (told1 _ (by rw [hP]; exact (calls_cons (RRail_s _ _ _) calls_nil))) rfl ?_ ?_; rotate_left 1)
    · repeat first | refine lwp_seq fun K hK => ?_ | (with_reducible refine gA ?_; apply_assumption -exfalso -symm) | refine Stp.h ?_ | refine gF rfl ?_ | refine gG rfl ?_ | refine gM hC rfl ⟨⟩ ?_
      refine lwp_condS hC rfl sd ?_ ?_ <;> intro hb
      · repeat first | refine lwp_seq fun K hK => ?_ | (with_reducible refine gA ?_; apply_assumption -exfalso -symm) | refine Stp.h ?_ | refine gF rfl ?_ | refine gG rfl ?_ | refine gM hC rfl ⟨⟩ ?_
        (refine lwp_region hC ⟨[], [], [(0, Awake_i)]⟩ (told1 _ (by rw [hP]; exact (calls_cons (Awake_s) calls_nil))) rfl ?_ ?_; rotate_left 1)
        · repeat first | refine lwp_seq fun K hK => ?_ | (with_reducible refine gA ?_; apply_assumption -exfalso -symm) | refine Stp.h ?_ | refine gF rfl ?_ | refine gG rfl ?_ | refine gM hC rfl sd ?_
          (refine end_intro (by first | exact .inr rfl | exact .inl rfl) [] rfl ?_)
          exact ⟨rfl, trivial⟩
        · exact sd
      · exfalso; simp_all
    · simp [AllL, All, *]

end Go.Proofs.YtccddhoeampdjaaGreatDoor
