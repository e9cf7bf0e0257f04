/- PlanDesigns: the law as a run. -/
import Derived.Test.YtccddhoeampdjaaGreatDoorUf
import Derived.Test.YtccddhoeampdjaaGreatDoorPx
set_option linter.unusedVariables false
set_option linter.unusedSimpArgs false
namespace Go.Proofs.YtccddhoeampdjaaGreatDoor
open Go.RowKit Go.Sym

def SameD_i (l : List Int) (σ : Ren) : Inst := { f := 26, hin := [(0, .ro l.length 1 (.ints .i64 l)), (1, .ro l.length 1 (.ints .i64 l))], args := [.sl 0 l.length, .sl 1 l.length], hout := [], ret := bl true, σ := σ }
set_option maxRecDepth 20000 in
theorem SameD_s (l : List Int) (σ : Ren) (hl : l.length ≤ 1000000) : (SameD_i l σ).ok Tryz.prog := by
  unfold SameD_i Inst.ok; dsimp only; refine spec_of_body (tys := tys) 2 Tryz.func26 (by kernel_rfl) rfl tys_ok rfl (Nat.le_of_ble_eq_true rfl) (fun _ _ h => (by cases h)) fun F hP hm hC hrd => ?_; conv => whnf
  repeat first | refine lwp_seq fun K hK => ?_ | (with_reducible refine gA ?_; apply_assumption -exfalso -symm) | refine Stp.h ?_ | refine gF rfl ?_ | refine gG rfl ?_ | refine gM hC rfl sd ?_
  refine lwp_condS hC rfl sd ?_ ?_ <;> intro hb
  · exact absurd rfl hb
  · clear hb
    repeat first | refine lwp_seq fun K hK => ?_ | (with_reducible refine gA ?_; apply_assumption -exfalso -symm) | refine Stp.h ?_ | refine gF rfl ?_ | refine gG rfl ?_ | refine gM hC rfl sd ?_
    refine lwp_loop (fun k : Nat => ⟨[(5, i64 k), (0, .sl 0 l.length), (1, .sl 1 l.length)], [(0, .ro l.length 1 (.ints .i64 l)), (1, .ro l.length 1 (.ints .i64 l))], 2⟩) (fun k => k ≤ l.length) (fun k => l.length - k) 0 ⟨?_, sub_intro hm [(0, some 0), (1, some 1)] rfl ?_⟩ ?_
    · exact Nat.zero_le _
    · exact sd
    · rintro k hk
      have hkk : ((k : Int)).toNat = k := Int.toNat_natCast k
      repeat first | refine lwp_seq fun K hK => ?_ | (with_reducible refine gA ?_; apply_assumption -exfalso -symm) | refine Stp.h ?_ | refine gF rfl ?_ | refine gG rfl ?_ | refine gM hC rfl sd ?_
      refine lwp_condS hC rfl sd ?_ ?_ <;> intro hb
      · have hk2 : k < l.length := by omega
        repeat first | refine lwp_seq fun K hK => ?_ | (with_reducible refine gA ?_; apply_assumption -exfalso -symm) | refine Stp.h ?_ | refine gF rfl ?_ | refine gG rfl ?_ | refine gM hC rfl ⟨⟩ ?_
        (refine lwp_drawn hC (by rw [hP]; exact mixed) ⟨[], [], []⟩ (told0 _ _) [0, 0, 3, 7, 0, 0, 48, 112, 255] 8 rfl ?_ ?_; rotate_left 1)
        · repeat first | refine lwp_seq fun K hK => ?_ | (with_reducible refine gA ?_; apply_assumption -exfalso -symm) | refine Stp.h ?_ | refine gF rfl ?_ | refine gG rfl ?_ | refine gM hC rfl ⟨⟩ ?_
          refine lwp_condS hC rfl sd ?_ ?_ <;> intro hb
          · simp at hb
          · repeat first | refine lwp_seq fun K hK => ?_ | (with_reducible refine gA ?_; apply_assumption -exfalso -symm) | refine Stp.h ?_ | refine gF rfl ?_ | refine gG rfl ?_ | refine gM hC rfl sd ?_
            refine gA ⟨k + 1, ?_, ?_, sub_intro hm [(0, some 0), (1, some 1)] rfl ?_⟩
            · omega
            · omega
            · exact sd
        · exact sd
      · repeat first | refine lwp_seq fun K hK => ?_ | (with_reducible refine gA ?_; apply_assumption -exfalso -symm) | refine Stp.h ?_ | refine gF rfl ?_ | refine gG rfl ?_ | refine gM hC rfl sd ?_
        (refine end_intro (by first | exact .inr rfl | exact .inl rfl) [] rfl ?_)
        exact ⟨rfl, trivial⟩

def LawDs_i (lv tg : List Int) (m r : Int) : Inst := { f := 6, gl := lawG, hin := [(0, pwC), (1, kdC), (2, .ro lv.length 1 (.ints .i64 lv)), (3, .ro tg.length 1 (.ints .i64 tg))], args := [.sl 2 lv.length, .sl 3 tg.length, .agg [i64 m, i64 r]], hout := [], ret := bl true, σ := [] }
set_option maxRecDepth 20000 in
set_option maxHeartbeats 4000000 in
theorem LawDs_s (lv tg : List Int) (m r : Int) (hlv : lv.length ≤ 9223372036854775807) (htg : tg.length ≤ 9223372036854775807) : (LawDs_i lv tg m r).ok Tryz.prog := by
  have hlong : ((lv.length : Int) ≤ 4 ∨ (lv.length : Int) = 25) ∧ ((tg.length : Int) ≤ 4 ∨ (tg.length : Int) = 25) → lv.length ≤ 1000000 ∧ tg.length ≤ 1000000 := by omega
  by_cases hz : desE lv tg m r = 0
  · obtain ⟨hL, hT, h0, hlen, hM, hR⟩ := desE_ok hz
    have h1 : lv.length ≤ 1000000 := by have := hL.1; omega
    have h2 : tg.length ≤ 1000000 := by have := hT.1; omega
    have hD := Dsg_s lv tg m r [(0, some 5), (1, some 6)] h1 h2
    unfold Dsg_i at hD
    have e1 : dsL lv tg m r = (dsP lv tg m r).2 := if_pos hz
    have e2 : dsC lv tg m r = (dsP lv tg m r).1 := if_pos hz
    rw [e1, e2, hz] at hD
    have hRD := RDes_s lv tg m r [(0, some 2), (1, some 3)] h1 h2
    unfold RDes_i at hRD
    rw [hz] at hRD
    have hp := dsP_is hz
    have hG := RDg_s m.toNat r (by omega) hR lv tg 0 [(0, some 2), (1, some 3)] hL hT hlen (by decide)
    unfold RDg_i at hG
    rw [hp, Int.toNat_of_nonneg hM.1, gL_some] at hG
    obtain ⟨p, hpe⟩ : ∃ p, dsP lv tg m r = p := ⟨_, rfl⟩
    rw [hpe] at hD hG hp
    obtain ⟨hf, hco⟩ := bestD_feas hp
    obtain ⟨hpl, hpa⟩ := feasD_all hf
    have hzl : (lv.zip tg).length = lv.length := by rw [List.length_zip]; omega
    have hC3 := RCost_s lv tg p.2 [(0, some 2), (1, some 3), (2, some 8)] hL hT (lfOk_of fun x hx => by have := hpa x hx; omega) (by omega) (by omega)
    unfold RCost_i at hC3
    rw [hco] at hC3
    have hp24 : p.2.length ≤ 24 := by have := hL.1; omega
    have hSm := SameD_s p.2 [(0, some 7), (1, some 8)] (by omega)
    have HD := Lib.hid hD
    have HRD := Lib.hid hRD
    have HG := Lib.hid hG
    have HC3 := Lib.hid hC3
    have HS := Lib.hid hSm
    clear hD hRD hG hC3 hSm hL hT hf hco hpa hpe e1 e2 hp hz hlong
    unfold LawDs_i Inst.ok; dsimp only; refine spec_of_body (tys := tys) 4 Tryz.func6 (by kernel_rfl) rfl tys_ok rfl (Nat.le_of_ble_eq_true rfl) (fun g i h => by simp only [List.mem_cons, List.not_mem_nil, or_false, Prod.mk.injEq] at h; omega) fun F hP hm hC hrd => ?_; conv => whnf
    repeat first | refine lwp_seq fun K hK => ?_ | (with_reducible refine gA ?_; apply_assumption -exfalso -symm) | refine Stp.h ?_ | refine gF rfl ?_ | refine gG rfl ?_ | refine gM hC rfl sd ?_
    all_goals first | exact sd | skip
    refine lwp_condS hC rfl sd ?_ ?_ <;> intro hb
    · clear hb
      repeat first | refine lwp_seq fun K hK => ?_ | (with_reducible refine gA ?_; apply_assumption -exfalso -symm) | refine Stp.h ?_ | refine gF rfl ?_ | refine gG rfl ?_ | refine gM hC rfl sd ?_
      (refine lwp_region hC ⟨[], [], [(0, Awake_i)]⟩ (told1 _ (by rw [hP]; exact (calls_cons (Awake_s) calls_nil))) rfl ?_ ?_; rotate_left 1)
      · repeat first | refine lwp_seq fun K hK => ?_ | (with_reducible refine gA ?_; apply_assumption -exfalso -symm) | refine Stp.h ?_ | refine gF rfl ?_ | refine gG rfl ?_ | refine gM hC rfl sd ?_
        (refine end_intro (by first | exact .inr rfl | exact .inl rfl) [] rfl ?_)
        exact ⟨rfl, trivial⟩
      · exact sd
    · clear hb
      repeat first | refine lwp_seq fun K hK => ?_ | (with_reducible refine gA ?_; apply_assumption -exfalso -symm) | refine Stp.h ?_ | refine gF rfl ?_ | refine gG rfl ?_ | refine gM hC rfl sd ?_
      (refine lwp_drawn hC (by rw [hP]; exact mixed) ⟨[], [], [(1, LInts_i lv [(0, some 2)]), (3, LInts_i tg [(0, some 3)]), (5, { f := 40, hin := twoIn lv tg, args := [.sl 0 lv.length, .sl 1 tg.length, .agg [i64 m, i64 r]], hout := [(2, .row 3 p.2.length 1 (.ints .i64 p.2))], ret := .tup [.sl 2 p.2.length, i64 p.1, i64 0], σ := [(0, some 5), (1, some 6)] })]⟩ (told1 _ (by rw [hP]; exact (calls_cons (LInts_s _ _ h1) (calls_cons (LInts_s _ _ h2) (calls_cons (HD.out) calls_nil))))) [0, 1, 0, 7, 0, 31, 63, 127, 127, 127, 255, 1535, 4095] 12 rfl ?_ ?_; rotate_left 1)
      · repeat first | refine lwp_seq fun K hK => ?_ | (with_reducible refine gA ?_; apply_assumption -exfalso -symm) | refine Stp.h ?_ | refine gF rfl ?_ | refine gG rfl ?_ | refine gM hC rfl sd ?_
        (refine lwp_region hC ⟨[], [], [(3, { f := 41, hin := twoIn lv tg, args := [.sl 0 lv.length, .sl 1 tg.length, .agg [i64 m, i64 r]], hout := [], ret := i64 0, σ := [(0, some 2), (1, some 3)] })]⟩ (told1 _ (by rw [hP]; exact (calls_cons (HRD.out) calls_nil))) rfl ?_ ?_; rotate_left 1)
        · repeat first | refine lwp_seq fun K hK => ?_ | (with_reducible refine gA ?_; apply_assumption -exfalso -symm) | refine Stp.h ?_ | refine gF rfl ?_ | refine gG rfl ?_ | refine gM hC rfl sd ?_
          refine lwp_condS hC rfl sd ?_ ?_ <;> intro hb
          · clear hb
            repeat first | refine lwp_seq fun K hK => ?_ | (with_reducible refine gA ?_; apply_assumption -exfalso -symm) | refine Stp.h ?_ | refine gF rfl ?_ | refine gG rfl ?_ | refine gM hC rfl sd ?_
            (refine lwp_region hC ⟨[], [], [(3, { f := 42, hin := twoIn lv tg, args := [.sl 0 lv.length, .sl 1 tg.length, .agg [i64 m, i64 r], i64 0], hout := [(2, .row 3 p.2.length 1 (.ints .i64 p.2))], ret := .tup [.sl 2 p.2.length, bl (some p).isSome], σ := [(0, some 2), (1, some 3)] })]⟩ (told1 _ (by rw [hP]; exact (calls_cons (HG.out) calls_nil))) rfl ?_ ?_; rotate_left 1)
            · repeat first | refine lwp_seq fun K hK => ?_ | (with_reducible refine gA ?_; apply_assumption -exfalso -symm) | refine Stp.h ?_ | refine gF rfl ?_ | refine gG rfl ?_ | refine gM hC rfl sd ?_
              (refine lwp_region hC ⟨[], [], [(3, { f := 43, hin := threeIn lv tg p.2, args := [.sl 0 lv.length, .sl 1 tg.length, .sl 2 p.2.length], hout := [], ret := i64 p.1, σ := [(0, some 2), (1, some 3), (2, some 8)] })]⟩ (told1 _ (by rw [hP]; exact (calls_cons (HC3.out) calls_nil))) rfl ?_ ?_; rotate_left 1)
              · repeat first | refine lwp_seq fun K hK => ?_ | (with_reducible refine gA ?_; apply_assumption -exfalso -symm) | refine Stp.h ?_ | refine gF rfl ?_ | refine gG rfl ?_ | refine gM hC rfl sd ?_
                (refine lwp_region hC ⟨[(3, { b := some true }), (8, { b := some true, g := some true }), (13, { b := some true, g := some true })], [], [(2, SameD_i p.2 [(0, some 7), (1, some 8)]), (14, Awake_i)]⟩ (told1 _ (by rw [hP]; exact (calls_cons (HS.out) (calls_cons (Awake_s) calls_nil)))) rfl ?_ ?_; rotate_left 1)
                · repeat first | refine lwp_seq fun K hK => ?_ | (with_reducible refine gA ?_; apply_assumption -exfalso -symm) | refine Stp.h ?_ | refine gF rfl ?_ | refine gG rfl ?_ | refine gM hC rfl sd ?_
                  (refine end_intro (by first | exact .inr rfl | exact .inl rfl) [] rfl ?_)
                  exact ⟨rfl, trivial⟩
                · exact sd
              · exact sd
            · exact sd
          · exact absurd rfl hb
        · exact sd
      · exact sd
  · have e1 : dsL lv tg m r = [] := if_neg hz
    have e2 : dsC lv tg m r = 0 := if_neg hz
    unfold LawDs_i Inst.ok; dsimp only; refine spec_of_body (tys := tys) 4 Tryz.func6 (by kernel_rfl) rfl tys_ok rfl (Nat.le_of_ble_eq_true rfl) (fun g i h => by simp only [List.mem_cons, List.not_mem_nil, or_false, Prod.mk.injEq] at h; omega) fun F hP hm hC hrd => ?_; conv => whnf
    repeat first | refine lwp_seq fun K hK => ?_ | (with_reducible refine gA ?_; apply_assumption -exfalso -symm) | refine Stp.h ?_ | refine gF rfl ?_ | refine gG rfl ?_ | refine gM hC rfl sd ?_
    all_goals first | exact sd | skip
    refine lwp_condS hC rfl sd ?_ ?_ <;> intro hb
    · clear hb
      repeat first | refine lwp_seq fun K hK => ?_ | (with_reducible refine gA ?_; apply_assumption -exfalso -symm) | refine Stp.h ?_ | refine gF rfl ?_ | refine gG rfl ?_ | refine gM hC rfl sd ?_
      (refine lwp_region hC ⟨[], [], [(0, Awake_i)]⟩ (told1 _ (by rw [hP]; exact (calls_cons (Awake_s) calls_nil))) rfl ?_ ?_; rotate_left 1)
      · repeat first | refine lwp_seq fun K hK => ?_ | (with_reducible refine gA ?_; apply_assumption -exfalso -symm) | refine Stp.h ?_ | refine gF rfl ?_ | refine gG rfl ?_ | refine gM hC rfl sd ?_
        (refine end_intro (by first | exact .inr rfl | exact .inl rfl) [] rfl ?_)
        exact ⟨rfl, trivial⟩
      · exact sd
    · have hq : ((lv.length : Int) ≤ 4 ∨ (lv.length : Int) = 25) ∧ ((tg.length : Int) ≤ 4 ∨ (tg.length : Int) = 25) := by
        by_cases q1 : (lv.length : Int) > 4 <;> by_cases q2 : (lv.length : Int) ≠ 25 <;> by_cases q3 : (tg.length : Int) > 4 <;> by_cases q4 : (tg.length : Int) ≠ 25 <;> simp [q1, q2, q3, q4] at hb <;> omega
      obtain ⟨h1, h2⟩ := hlong hq
      clear hb hq hlong
      have hD := Dsg_s lv tg m r [(0, some 5), (1, some 6)] h1 h2
      unfold Dsg_i at hD
      rw [e1, e2] at hD
      have HD := Lib.hid hD
      clear hD e1 e2
      repeat first | refine lwp_seq fun K hK => ?_ | (with_reducible refine gA ?_; apply_assumption -exfalso -symm) | refine Stp.h ?_ | refine gF rfl ?_ | refine gG rfl ?_ | refine gM hC rfl sd ?_
      (refine lwp_drawn hC (by rw [hP]; exact mixed) ⟨[], [], [(1, LInts_i lv [(0, some 2)]), (3, LInts_i tg [(0, some 3)]), (5, { f := 40, hin := twoIn lv tg, args := [.sl 0 lv.length, .sl 1 tg.length, .agg [i64 m, i64 r]], hout := [(2, .row 3 ([] : List Int).length 1 (.ints .i64 []))], ret := .tup [.sl 2 ([] : List Int).length, i64 0, i64 (desE lv tg m r)], σ := [(0, some 5), (1, some 6)] })]⟩ (told1 _ (by rw [hP]; exact (calls_cons (LInts_s _ _ h1) (calls_cons (LInts_s _ _ h2) (calls_cons (HD.out) calls_nil))))) [0, 1, 0, 7, 0, 31, 63, 127, 127, 127, 255, 1535, 4095] 12 rfl ?_ ?_; rotate_left 1)
      · repeat first | refine lwp_seq fun K hK => ?_ | (with_reducible refine gA ?_; apply_assumption -exfalso -symm) | refine Stp.h ?_ | refine gF rfl ?_ | refine gG rfl ?_ | refine gM hC rfl sd ?_
        (refine lwp_region hC ⟨[], [], [(3, RDes_i lv tg m r [(0, some 2), (1, some 3)])]⟩ (told1 _ (by rw [hP]; exact (calls_cons (RDes_s _ _ _ _ _ h1 h2) calls_nil))) rfl ?_ ?_; rotate_left 1)
        · repeat first | refine lwp_seq fun K hK => ?_ | (with_reducible refine gA ?_; apply_assumption -exfalso -symm) | refine Stp.h ?_ | refine gF rfl ?_ | refine gG rfl ?_ | refine gM hC rfl sd ?_
          refine lwp_condS hC rfl sd ?_ ?_ <;> intro hb
          · exact absurd hb hz
          · repeat first | refine lwp_seq fun K hK => ?_ | (with_reducible refine gA ?_; apply_assumption -exfalso -symm) | refine Stp.h ?_ | refine gF rfl ?_ | refine gG rfl ?_ | refine gM hC rfl sd ?_
            (refine lwp_region hC ⟨[(3, { b := some true }), (8, { b := some true, g := some true }), (13, { b := some true, g := some true })], [], [(2, SameD_i [] [(0, some 7), (1, none)]), (14, Awake_i)]⟩ (told1 _ (by rw [hP]; exact (calls_cons (SameD_s _ _ (by decide)) (calls_cons (Awake_s) calls_nil)))) rfl ?_ ?_; rotate_left 1)
            · repeat first | refine lwp_seq fun K hK => ?_ | (with_reducible refine gA ?_; apply_assumption -exfalso -symm) | refine Stp.h ?_ | refine gF rfl ?_ | refine gG rfl ?_ | refine gM hC rfl sd ?_
              (refine end_intro (by first | exact .inr rfl | exact .inl rfl) [] rfl ?_)
              exact ⟨rfl, trivial⟩
            · exact sd
        · exact sd
      · exact sd

end Go.Proofs.YtccddhoeampdjaaGreatDoor
