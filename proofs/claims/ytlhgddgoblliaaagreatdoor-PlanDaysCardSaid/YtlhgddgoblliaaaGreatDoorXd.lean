/- PlanDays: the law as a run. -/
import Derived.Test.YtlhgddgoblliaaaGreatDoorXa
import Derived.Test.YtlhgddgoblliaaaGreatDoorVy
import Derived.Test.YtlhgddgoblliaaaGreatDoorPx
set_option linter.unusedVariables false
set_option linter.unusedSimpArgs false
namespace Go.Proofs.YtlhgddgoblliaaaGreatDoor
open Go.RowKit Go.Sym

def dayLaw (l : List Jb) (H : List Int) : List (Nat × Chunk) := [(0, pwC), (1, kdC), (2, jbCh l 3), (3, fmCh l), (4, .ro H.length 1 (.ints .i64 H))]
def LawDy_i (l : List Jb) (H : List Int) (lo hi : Int) : Inst := { f := 4, gl := lawG, hin := dayLaw l H, args := [.sl 2 l.length, .sl 4 H.length, .agg [i64 lo, i64 hi]], hout := [], ret := bl true, σ := [] }
set_option maxRecDepth 20000 in
set_option maxHeartbeats 8000000 in
theorem LawDy_out (l : List Jb) (H : List Int) (lo hi : Int) (hl : l.length ≤ 9223372036854775807) (hH : H.length ≤ 9223372036854775807) (hln : ∀ k, lnJ l k ≤ 9223372036854775807) (h : ¬ (shJ l = true ∧ l.length ≤ 4 ∧ jobsE l = 0 ∧ H.length ≤ 5 ∧ heatE H = 0 ∧ bandS lo hi = 0)) : (LawDy_i l H lo hi).ok Tryz.prog := by
  have hsh := ShJ_s l [(0, some 2), (1, some 3)] hl hln
  unfold ShJ_i at hsh
  by_cases c1 : shJ l = true
  · obtain ⟨b1, b2, b3⟩ := shJ_ok c1
    rw [c1] at hsh
    have HSH := Lib.hid hsh
    clear hsh
    by_cases c2 : l.length ≤ 4
    · have hrj := RCJ_s l [(0, some 2), (1, some 3)] b1 b2 b3
      unfold RCJ_i at hrj
      by_cases c3 : jobsE l = 0
      · rw [c3] at hrj
        have HRJ := Lib.hid hrj
        clear hrj
        by_cases c4 : H.length ≤ 5
        · have hrh := RHts_s H [(0, some 4)] (by omega)
          unfold RHts_i at hrh
          by_cases c5 : heatE H = 0
          · have c6 : ¬ bandS lo hi = 0 := fun e => h ⟨c1, c2, c3, c4, c5, e⟩
            rw [c5] at hrh
            have HRH := Lib.hid hrh
            have hrb := RBand_s lo hi
            unfold RBand_i at hrb
            obtain ⟨o, ho⟩ : ∃ o, bandS lo hi = o := ⟨_, rfl⟩
            rw [ho] at hrb c6
            have HRB := Lib.hid hrb
            clear hrh hrb ho h c1 c3 c5
            unfold LawDy_i dayLaw Inst.ok; dsimp only; refine spec_of_body (tys := tys) 5 Tryz.func4 (by kernel_rfl) rfl tys_ok rfl (Nat.le_of_ble_eq_true rfl) (fun g i h => by simp only [List.mem_cons, List.not_mem_nil, or_false, Prod.mk.injEq] at h; omega) fun F hP hm hC hrd => ?_; conv => whnf
            repeat first | refine lwp_seq fun K hK => ?_ | (with_reducible refine gA ?_; apply_assumption -exfalso -symm) | refine Stp.h ?_ | refine gF rfl ?_ | refine gG rfl ?_ | refine gM hC rfl sd ?_
            (refine lwp_region hC ⟨[(3, { b := some false }), (6, { b := some false }), (8, { b := some false }), (11, { b := some false }), (13, { b := some false }), (16, { b := some false }), (18, { b := some false }), (21, { b := some false }), (23, { b := some false })], [], [(1, { f := 7, hin := jobIn l, args := [.sl 0 l.length], hout := [], ret := bl true, σ := [(0, some 2), (1, some 3)] }), (10, { f := 14, hin := jobIn l, args := [.sl 0 l.length], hout := [], ret := i64 0, σ := [(0, some 2), (1, some 3)] }), (20, { f := 15, hin := [(0, .ro H.length 1 (.ints .i64 H))], args := [.sl 0 H.length], hout := [], ret := i64 0, σ := [(0, some 4)] }), (25, { f := 16, hin := [], args := [.agg [i64 lo, i64 hi]], hout := [], ret := i64 o, σ := [] })]⟩ (told1 _ (by rw [hP]; exact (calls_cons (HSH.out) (calls_cons (HRJ.out) (calls_cons (HRH.out) (calls_cons (HRB.out) calls_nil)))))) rfl ?_ ?_; rotate_left 1)
            · repeat first | refine lwp_seq fun K hK => ?_ | (with_reducible refine gA ?_; apply_assumption -exfalso -symm) | refine Stp.h ?_ | refine gF rfl ?_ | refine gG rfl ?_ | refine gM hC rfl sd ?_
              refine lwp_condS hC rfl sd ?_ ?_ <;> intro hb
              · clear hb
                repeat first | refine lwp_seq fun K hK => ?_ | (with_reducible refine gA ?_; apply_assumption -exfalso -symm) | refine Stp.h ?_ | refine gF rfl ?_ | refine gG rfl ?_ | refine gM hC rfl sd ?_
                (refine lwp_region hC ⟨[], [], [(0, Awake_i)]⟩ (told1 _ (by rw [hP]; exact (calls_cons (Awake_s) calls_nil))) rfl ?_ ?_; rotate_left 1)
                · repeat first | refine lwp_seq fun K hK => ?_ | (with_reducible refine gA ?_; apply_assumption -exfalso -symm) | refine Stp.h ?_ | refine gF rfl ?_ | refine gG rfl ?_ | refine gM hC rfl sd ?_
                  (refine end_intro (by first | exact .inr rfl | exact .inl rfl) [] rfl ?_)
                  exact ⟨rfl, trivial⟩
                · exact sd
              · simp at hb; exact absurd hb c6
            · exact sd
          · obtain ⟨o, ho⟩ : ∃ o, heatE H = o := ⟨_, rfl⟩
            rw [ho] at hrh c5
            have HRH := Lib.hid hrh
            clear hrh ho h c1 c3
            unfold LawDy_i dayLaw Inst.ok; dsimp only; refine spec_of_body (tys := tys) 5 Tryz.func4 (by kernel_rfl) rfl tys_ok rfl (Nat.le_of_ble_eq_true rfl) (fun g i h => by simp only [List.mem_cons, List.not_mem_nil, or_false, Prod.mk.injEq] at h; omega) fun F hP hm hC hrd => ?_; conv => whnf
            repeat first | refine lwp_seq fun K hK => ?_ | (with_reducible refine gA ?_; apply_assumption -exfalso -symm) | refine Stp.h ?_ | refine gF rfl ?_ | refine gG rfl ?_ | refine gM hC rfl sd ?_
            (refine lwp_region hC ⟨[(3, { b := some false }), (6, { b := some false }), (8, { b := some false }), (11, { b := some false }), (13, { b := some false }), (16, { b := some false }), (18, { b := some false }), (21, { b := some true }), (23, { b := some true }), (24, { g := some false }), (25, { g := some false }), (26, { g := some false })], [], [(1, { f := 7, hin := jobIn l, args := [.sl 0 l.length], hout := [], ret := bl true, σ := [(0, some 2), (1, some 3)] }), (10, { f := 14, hin := jobIn l, args := [.sl 0 l.length], hout := [], ret := i64 0, σ := [(0, some 2), (1, some 3)] }), (20, { f := 15, hin := [(0, .ro H.length 1 (.ints .i64 H))], args := [.sl 0 H.length], hout := [], ret := i64 o, σ := [(0, some 4)] })]⟩ (told1 _ (by rw [hP]; exact (calls_cons (HSH.out) (calls_cons (HRJ.out) (calls_cons (HRH.out) calls_nil))))) rfl ?_ ?_; rotate_left 1)
            · repeat first | refine lwp_seq fun K hK => ?_ | (with_reducible refine gA ?_; apply_assumption -exfalso -symm) | refine Stp.h ?_ | refine gF rfl ?_ | refine gG rfl ?_ | refine gM hC rfl sd ?_
              refine lwp_condS hC rfl sd ?_ ?_ <;> intro hb
              · clear hb
                repeat first | refine lwp_seq fun K hK => ?_ | (with_reducible refine gA ?_; apply_assumption -exfalso -symm) | refine Stp.h ?_ | refine gF rfl ?_ | refine gG rfl ?_ | refine gM hC rfl sd ?_
                (refine lwp_region hC ⟨[], [], [(0, Awake_i)]⟩ (told1 _ (by rw [hP]; exact (calls_cons (Awake_s) calls_nil))) rfl ?_ ?_; rotate_left 1)
                · repeat first | refine lwp_seq fun K hK => ?_ | (with_reducible refine gA ?_; apply_assumption -exfalso -symm) | refine Stp.h ?_ | refine gF rfl ?_ | refine gG rfl ?_ | refine gM hC rfl sd ?_
                  (refine end_intro (by first | exact .inr rfl | exact .inl rfl) [] rfl ?_)
                  exact ⟨rfl, trivial⟩
                · exact sd
              · exact absurd hb (by simp)
            · exact sd
        · clear h c1 c3
          unfold LawDy_i dayLaw Inst.ok; dsimp only; refine spec_of_body (tys := tys) 5 Tryz.func4 (by kernel_rfl) rfl tys_ok rfl (Nat.le_of_ble_eq_true rfl) (fun g i h => by simp only [List.mem_cons, List.not_mem_nil, or_false, Prod.mk.injEq] at h; omega) fun F hP hm hC hrd => ?_; conv => whnf
          repeat first | refine lwp_seq fun K hK => ?_ | (with_reducible refine gA ?_; apply_assumption -exfalso -symm) | refine Stp.h ?_ | refine gF rfl ?_ | refine gG rfl ?_ | refine gM hC rfl sd ?_
          (refine lwp_region hC ⟨[(3, { b := some false }), (6, { b := some false }), (8, { b := some false }), (11, { b := some false }), (13, { b := some false }), (16, { b := some true }), (18, { b := some true }), (19, { g := some false }), (20, { g := some false }), (21, { g := some false }), (23, { b := some true }), (24, { g := some false }), (25, { g := some false }), (26, { g := some false })], [], [(1, { f := 7, hin := jobIn l, args := [.sl 0 l.length], hout := [], ret := bl true, σ := [(0, some 2), (1, some 3)] }), (10, { f := 14, hin := jobIn l, args := [.sl 0 l.length], hout := [], ret := i64 0, σ := [(0, some 2), (1, some 3)] })]⟩ (told1 _ (by rw [hP]; exact (calls_cons (HSH.out) (calls_cons (HRJ.out) calls_nil)))) rfl ?_ ?_; rotate_left 1)
          · repeat first | refine lwp_seq fun K hK => ?_ | (with_reducible refine gA ?_; apply_assumption -exfalso -symm) | refine Stp.h ?_ | refine gF rfl ?_ | refine gG rfl ?_ | refine gM hC rfl sd ?_
            refine lwp_condS hC rfl sd ?_ ?_ <;> intro hb
            · clear hb
              repeat first | refine lwp_seq fun K hK => ?_ | (with_reducible refine gA ?_; apply_assumption -exfalso -symm) | refine Stp.h ?_ | refine gF rfl ?_ | refine gG rfl ?_ | refine gM hC rfl sd ?_
              (refine lwp_region hC ⟨[], [], [(0, Awake_i)]⟩ (told1 _ (by rw [hP]; exact (calls_cons (Awake_s) calls_nil))) rfl ?_ ?_; rotate_left 1)
              · repeat first | refine lwp_seq fun K hK => ?_ | (with_reducible refine gA ?_; apply_assumption -exfalso -symm) | refine Stp.h ?_ | refine gF rfl ?_ | refine gG rfl ?_ | refine gM hC rfl sd ?_
                (refine end_intro (by first | exact .inr rfl | exact .inl rfl) [] rfl ?_)
                exact ⟨rfl, trivial⟩
              · exact sd
            · exact absurd hb (by simp)
          · exact sd
      · obtain ⟨o, ho⟩ : ∃ o, jobsE l = o := ⟨_, rfl⟩
        rw [ho] at hrj c3
        have HRJ := Lib.hid hrj
        clear hrj ho h c1
        unfold LawDy_i dayLaw Inst.ok; dsimp only; refine spec_of_body (tys := tys) 5 Tryz.func4 (by kernel_rfl) rfl tys_ok rfl (Nat.le_of_ble_eq_true rfl) (fun g i h => by simp only [List.mem_cons, List.not_mem_nil, or_false, Prod.mk.injEq] at h; omega) fun F hP hm hC hrd => ?_; conv => whnf
        repeat first | refine lwp_seq fun K hK => ?_ | (with_reducible refine gA ?_; apply_assumption -exfalso -symm) | refine Stp.h ?_ | refine gF rfl ?_ | refine gG rfl ?_ | refine gM hC rfl sd ?_
        (refine lwp_region hC ⟨[(3, { b := some false }), (6, { b := some false }), (8, { b := some false }), (11, { b := some true }), (13, { b := some true }), (14, { g := some false }), (15, { g := some false }), (16, { g := some false }), (18, { b := some true }), (19, { g := some false }), (20, { g := some false }), (21, { g := some false }), (23, { b := some true }), (24, { g := some false }), (25, { g := some false }), (26, { g := some false })], [], [(1, { f := 7, hin := jobIn l, args := [.sl 0 l.length], hout := [], ret := bl true, σ := [(0, some 2), (1, some 3)] }), (10, { f := 14, hin := jobIn l, args := [.sl 0 l.length], hout := [], ret := i64 o, σ := [(0, some 2), (1, some 3)] })]⟩ (told1 _ (by rw [hP]; exact (calls_cons (HSH.out) (calls_cons (HRJ.out) calls_nil)))) rfl ?_ ?_; rotate_left 1)
        · repeat first | refine lwp_seq fun K hK => ?_ | (with_reducible refine gA ?_; apply_assumption -exfalso -symm) | refine Stp.h ?_ | refine gF rfl ?_ | refine gG rfl ?_ | refine gM hC rfl sd ?_
          refine lwp_condS hC rfl sd ?_ ?_ <;> intro hb
          · clear hb
            repeat first | refine lwp_seq fun K hK => ?_ | (with_reducible refine gA ?_; apply_assumption -exfalso -symm) | refine Stp.h ?_ | refine gF rfl ?_ | refine gG rfl ?_ | refine gM hC rfl sd ?_
            (refine lwp_region hC ⟨[], [], [(0, Awake_i)]⟩ (told1 _ (by rw [hP]; exact (calls_cons (Awake_s) calls_nil))) rfl ?_ ?_; rotate_left 1)
            · repeat first | refine lwp_seq fun K hK => ?_ | (with_reducible refine gA ?_; apply_assumption -exfalso -symm) | refine Stp.h ?_ | refine gF rfl ?_ | refine gG rfl ?_ | refine gM hC rfl sd ?_
              (refine end_intro (by first | exact .inr rfl | exact .inl rfl) [] rfl ?_)
              exact ⟨rfl, trivial⟩
            · exact sd
          · exact absurd hb (by simp)
        · exact sd
    · clear h c1
      unfold LawDy_i dayLaw Inst.ok; dsimp only; refine spec_of_body (tys := tys) 5 Tryz.func4 (by kernel_rfl) rfl tys_ok rfl (Nat.le_of_ble_eq_true rfl) (fun g i h => by simp only [List.mem_cons, List.not_mem_nil, or_false, Prod.mk.injEq] at h; omega) fun F hP hm hC hrd => ?_; conv => whnf
      repeat first | refine lwp_seq fun K hK => ?_ | (with_reducible refine gA ?_; apply_assumption -exfalso -symm) | refine Stp.h ?_ | refine gF rfl ?_ | refine gG rfl ?_ | refine gM hC rfl sd ?_
      (refine lwp_region hC ⟨[(3, { b := some false }), (6, { b := some true }), (8, { b := some true }), (9, { g := some false }), (10, { g := some false }), (11, { g := some false }), (13, { b := some true }), (14, { g := some false }), (15, { g := some false }), (16, { g := some false }), (18, { b := some true }), (19, { g := some false }), (20, { g := some false }), (21, { g := some false }), (23, { b := some true }), (24, { g := some false }), (25, { g := some false }), (26, { g := some false })], [], [(1, { f := 7, hin := jobIn l, args := [.sl 0 l.length], hout := [], ret := bl true, σ := [(0, some 2), (1, some 3)] })]⟩ (told1 _ (by rw [hP]; exact (calls_cons (HSH.out) calls_nil))) rfl ?_ ?_; rotate_left 1)
      · repeat first | refine lwp_seq fun K hK => ?_ | (with_reducible refine gA ?_; apply_assumption -exfalso -symm) | refine Stp.h ?_ | refine gF rfl ?_ | refine gG rfl ?_ | refine gM hC rfl sd ?_
        refine lwp_condS hC rfl sd ?_ ?_ <;> intro hb
        · clear hb
          repeat first | refine lwp_seq fun K hK => ?_ | (with_reducible refine gA ?_; apply_assumption -exfalso -symm) | refine Stp.h ?_ | refine gF rfl ?_ | refine gG rfl ?_ | refine gM hC rfl sd ?_
          (refine lwp_region hC ⟨[], [], [(0, Awake_i)]⟩ (told1 _ (by rw [hP]; exact (calls_cons (Awake_s) calls_nil))) rfl ?_ ?_; rotate_left 1)
          · repeat first | refine lwp_seq fun K hK => ?_ | (with_reducible refine gA ?_; apply_assumption -exfalso -symm) | refine Stp.h ?_ | refine gF rfl ?_ | refine gG rfl ?_ | refine gM hC rfl sd ?_
            (refine end_intro (by first | exact .inr rfl | exact .inl rfl) [] rfl ?_)
            exact ⟨rfl, trivial⟩
          · exact sd
        · exact absurd hb (by simp)
      · exact sd
  · have c0 : shJ l = false := by simpa using c1
    rw [c0] at hsh
    have HSH := Lib.hid hsh
    clear hsh h c0 c1
    unfold LawDy_i dayLaw Inst.ok; dsimp only; refine spec_of_body (tys := tys) 5 Tryz.func4 (by kernel_rfl) rfl tys_ok rfl (Nat.le_of_ble_eq_true rfl) (fun g i h => by simp only [List.mem_cons, List.not_mem_nil, or_false, Prod.mk.injEq] at h; omega) fun F hP hm hC hrd => ?_; conv => whnf
    repeat first | refine lwp_seq fun K hK => ?_ | (with_reducible refine gA ?_; apply_assumption -exfalso -symm) | refine Stp.h ?_ | refine gF rfl ?_ | refine gG rfl ?_ | refine gM hC rfl sd ?_
    (refine lwp_region hC ⟨[(3, { b := some true }), (4, { g := some false }), (5, { g := some false }), (6, { g := some false }), (8, { b := some true }), (9, { g := some false }), (10, { g := some false }), (11, { g := some false }), (13, { b := some true }), (14, { g := some false }), (15, { g := some false }), (16, { g := some false }), (18, { b := some true }), (19, { g := some false }), (20, { g := some false }), (21, { g := some false }), (23, { b := some true }), (24, { g := some false }), (25, { g := some false }), (26, { g := some false })], [], [(1, { f := 7, hin := jobIn l, args := [.sl 0 l.length], hout := [], ret := bl false, σ := [(0, some 2), (1, some 3)] })]⟩ (told1 _ (by rw [hP]; exact (calls_cons (HSH.out) calls_nil))) rfl ?_ ?_; rotate_left 1)
    · repeat first | refine lwp_seq fun K hK => ?_ | (with_reducible refine gA ?_; apply_assumption -exfalso -symm) | refine Stp.h ?_ | refine gF rfl ?_ | refine gG rfl ?_ | refine gM hC rfl sd ?_
      refine lwp_condS hC rfl sd ?_ ?_ <;> intro hb
      · clear hb
        repeat first | refine lwp_seq fun K hK => ?_ | (with_reducible refine gA ?_; apply_assumption -exfalso -symm) | refine Stp.h ?_ | refine gF rfl ?_ | refine gG rfl ?_ | refine gM hC rfl sd ?_
        (refine lwp_region hC ⟨[], [], [(0, Awake_i)]⟩ (told1 _ (by rw [hP]; exact (calls_cons (Awake_s) calls_nil))) rfl ?_ ?_; rotate_left 1)
        · repeat first | refine lwp_seq fun K hK => ?_ | (with_reducible refine gA ?_; apply_assumption -exfalso -symm) | refine Stp.h ?_ | refine gF rfl ?_ | refine gG rfl ?_ | refine gM hC rfl sd ?_
          (refine end_intro (by first | exact .inr rfl | exact .inl rfl) [] rfl ?_)
          exact ⟨rfl, trivial⟩
        · exact sd
      · exact absurd hb (by simp)
    · exact sd
set_option maxRecDepth 20000 in
set_option maxHeartbeats 8000000 in
theorem LawDy_nil (l : List Jb) (H : List Int) (lo hi : Int) (hl : l.length ≤ 9223372036854775807) (hln : ∀ k, lnJ l k ≤ 9223372036854775807) (c1 : shJ l = true) (c3 : jobsE l = 0) (c4 : H.length ≤ 5) (c5 : heatE H = 0) (c6 : bandS lo hi = 0) (c7 : l.length = 0) : (LawDy_i l H lo hi).ok Tryz.prog := by
  obtain ⟨b1, b2, b3⟩ := shJ_ok c1
  have b4 : H.length ≤ 1000 := by omega
  have hsh := ShJ_s l [(0, some 2), (1, some 3)] hl hln
  unfold ShJ_i at hsh
  rw [c1] at hsh
  have HSH := Lib.hid hsh
  have hrj := RCJ_s l [(0, some 2), (1, some 3)] b1 b2 b3
  unfold RCJ_i at hrj
  rw [c3] at hrj
  have HRJ := Lib.hid hrj
  have hrh := RHts_s H [(0, some 4)] (by omega)
  unfold RHts_i at hrh
  rw [c5] at hrh
  have HRH := Lib.hid hrh
  have hrb := RBand_s lo hi
  unfold RBand_i at hrb
  rw [c6] at hrb
  have HRB := Lib.hid hrb
  have hch := Chn_s l [(0, some 6), (1, some 7), (2, some 1)] b1 b2
  have e2 : chE2 l = 7 := by
    unfold chE2
    rw [c3, decide_eq_true (by omega)]; rfl
  have e1 : chR l = [] := if_neg (by rw [e2]; decide)
  unfold Chn_i at hch
  rw [e1, e2] at hch
  have hsq := Sq_s l H lo hi [(0, some 9), (1, some 10), (2, some 11), (3, some 1)] b1 b2 b4
  unfold Sq_i at hsq
  rw [sq_nil c7 c3 c5 c6] at hsq
  have HCH := Lib.hid hch
  have HSQ := Lib.hid hsq
  clear hsh hrj hrh hrb hch hsq e1 e2 c1 c3 c5 c6
  unfold LawDy_i dayLaw Inst.ok; dsimp only; refine spec_of_body (tys := tys) 5 Tryz.func4 (by kernel_rfl) rfl tys_ok rfl (Nat.le_of_ble_eq_true rfl) (fun g i h => by simp only [List.mem_cons, List.not_mem_nil, or_false, Prod.mk.injEq] at h; omega) fun F hP hm hC hrd => ?_; conv => whnf
  repeat first | refine lwp_seq fun K hK => ?_ | (with_reducible refine gA ?_; apply_assumption -exfalso -symm) | refine Stp.h ?_ | refine gF rfl ?_ | refine gG rfl ?_ | refine gM hC rfl sd ?_
  (refine lwp_region hC ⟨[(3, { b := some false }), (6, { b := some false }), (8, { b := some false }), (11, { b := some false }), (13, { b := some false }), (16, { b := some false }), (18, { b := some false }), (21, { b := some false }), (23, { b := some false })], [], [(1, { f := 7, hin := jobIn l, args := [.sl 0 l.length], hout := [], ret := bl true, σ := [(0, some 2), (1, some 3)] }), (10, { f := 14, hin := jobIn l, args := [.sl 0 l.length], hout := [], ret := i64 0, σ := [(0, some 2), (1, some 3)] }), (20, { f := 15, hin := [(0, .ro H.length 1 (.ints .i64 H))], args := [.sl 0 H.length], hout := [], ret := i64 0, σ := [(0, some 4)] }), (25, { f := 16, hin := [], args := [.agg [i64 lo, i64 hi]], hout := [], ret := i64 0, σ := [] })]⟩ (told1 _ (by rw [hP]; exact (calls_cons (HSH.out) (calls_cons (HRJ.out) (calls_cons (HRH.out) (calls_cons (HRB.out) calls_nil)))))) rfl ?_ ?_; rotate_left 1)
  · repeat first | refine lwp_seq fun K hK => ?_ | (with_reducible refine gA ?_; apply_assumption -exfalso -symm) | refine Stp.h ?_ | refine gF rfl ?_ | refine gG rfl ?_ | refine gM hC rfl sd ?_
    refine lwp_condS hC rfl sd ?_ ?_ <;> intro hb
    · exact absurd hb (by simp)
    · clear hb
      repeat first | refine lwp_seq fun K hK => ?_ | (with_reducible refine gA ?_; apply_assumption -exfalso -symm) | refine Stp.h ?_ | refine gF rfl ?_ | refine gG rfl ?_ | refine gM hC rfl sd ?_
      (refine lwp_region hC ⟨[], [], [(1, Jobs_i l [(0, some 2), (1, some 3)]), (2, { f := 22, gl := [(0, 2)], hin := jobIn l ++ [(2, kdP)], args := [.sl 0 l.length], hout := [(3, .row 9 ([] : List ByteArray).length 1 (strC ([] : List ByteArray)))], ret := .tup [.sl 3 ([] : List ByteArray).length, i64 7], σ := [(0, some 6), (1, some 7), (2, some 1)] })]⟩ (told1 _ (by rw [hP]; exact (calls_cons (Jobs_s _ _ b1 b2) (calls_cons (HCH.out) calls_nil)))) rfl ?_ ?_; rotate_left 1)
      · repeat first | refine lwp_seq fun K hK => ?_ | (with_reducible refine gA ?_; apply_assumption -exfalso -symm) | refine Stp.h ?_ | refine gF rfl ?_ | refine gG rfl ?_ | refine gM hC rfl sd ?_
        refine lwp_condS hC rfl sd ?_ ?_ <;> intro hb
        · clear hb
          repeat first | refine lwp_seq fun K hK => ?_ | (with_reducible refine gA ?_; apply_assumption -exfalso -symm) | refine Stp.h ?_ | refine gF rfl ?_ | refine gG rfl ?_ | refine gM hC rfl sd ?_
          (refine lwp_drawn hC (by rw [hP]; exact mixed) ⟨[], [], [(1, Jobs_i l [(0, some 2), (1, some 3)]), (3, LInts_i H [(0, some 4)]), (5, { f := 12, gl := [(0, 3)], hin := jhIn l H, args := [.sl 0 l.length, .sl 2 H.length, .agg [i64 lo, i64 hi]], hout := [(4, .row 3 ([] : List Int).length 1 (.ints .i64 ([] : List Int)))], ret := .tup [.sl 4 ([] : List Int).length, i64 0, i64 0], σ := [(0, some 9), (1, some 10), (2, some 11), (3, some 1)] })]⟩ (told1 _ (by rw [hP]; exact (calls_cons (Jobs_s _ _ b1 b2) (calls_cons (LInts_s _ _ (by omega)) (calls_cons (HSQ.out) calls_nil))))) [0, 1, 0, 7, 0, 31, 63, 127, 127, 127, 255, 1535, 4095] 12 rfl ?_ ?_; rotate_left 1)
          · repeat first | refine lwp_seq fun K hK => ?_ | (with_reducible refine gA ?_; apply_assumption -exfalso -symm) | refine Stp.h ?_ | refine gF rfl ?_ | refine gG rfl ?_ | refine gM hC rfl sd ?_
            (refine lwp_region hC ⟨[(1, { b := some true }), (4, { b := some true, g := some true }), (9, { b := some true, g := some true }), (13, { b := some true, g := some true })], [], [(16, Awake_i)]⟩ (told1 _ (by rw [hP]; exact (calls_cons (Awake_s) calls_nil))) rfl ?_ ?_; rotate_left 1)
            · repeat first | refine lwp_seq fun K hK => ?_ | (with_reducible refine gA ?_; apply_assumption -exfalso -symm) | refine Stp.h ?_ | refine gF rfl ?_ | refine gG rfl ?_ | refine gM hC rfl sd ?_
              (refine end_intro (by first | exact .inr rfl | exact .inl rfl) [] rfl ?_)
              exact ⟨rfl, trivial⟩
            · exact sd
          · exact sd
        · exact absurd (by omega) hb
      · exact sd
  · exact sd
set_option maxRecDepth 20000 in
set_option maxHeartbeats 8000000 in
theorem LawDy_in (l : List Jb) (H : List Int) (lo hi : Int) (hl : l.length ≤ 9223372036854775807) (hln : ∀ k, lnJ l k ≤ 9223372036854775807) (c1 : shJ l = true) (c2 : l.length ≤ 4) (c3 : jobsE l = 0) (c4 : H.length ≤ 5) (c5 : heatE H = 0) (c6 : bandS lo hi = 0) (c7 : 0 < l.length) : (LawDy_i l H lo hi).ok Tryz.prog := by
  obtain ⟨b1, b2, b3⟩ := shJ_ok c1
  have b4 : H.length ≤ 1000 := by omega
  have hsh := ShJ_s l [(0, some 2), (1, some 3)] hl hln
  unfold ShJ_i at hsh
  rw [c1] at hsh
  have HSH := Lib.hid hsh
  have hrj := RCJ_s l [(0, some 2), (1, some 3)] b1 b2 b3
  unfold RCJ_i at hrj
  rw [c3] at hrj
  have HRJ := Lib.hid hrj
  have hrh := RHts_s H [(0, some 4)] (by omega)
  unfold RHts_i at hrh
  rw [c5] at hrh
  have HRH := Lib.hid hrh
  have hrb := RBand_s lo hi
  unfold RBand_i at hrb
  rw [c6] at hrb
  have HRB := Lib.hid hrb
  have hch := Chn_s l [(0, some 6), (1, some 7), (2, some 1)] b1 b2
  obtain ⟨e1, e2, hcf⟩ := chF_of c3 c7
  have hss := sqF_of c3 c5 c6
  unfold Chn_i at hch
  rw [e1, e2] at hch
  obtain ⟨C, hC⟩ : ∃ C, chS l = C := ⟨_, rfl⟩
  rw [hC] at hch hcf hss
  have HCH := Lib.hid hch
  have HCF := Lib.hid hcf
  have HS := Lib.hid hss
  clear hsh hrj hrh hrb hch hcf hss e1 e2 hC c1 c3 c5 c6
  unfold LawDy_i dayLaw Inst.ok; dsimp only; refine spec_of_body (tys := tys) 5 Tryz.func4 (by kernel_rfl) rfl tys_ok rfl (Nat.le_of_ble_eq_true rfl) (fun g i h => by simp only [List.mem_cons, List.not_mem_nil, or_false, Prod.mk.injEq] at h; omega) fun F hP hm hC hrd => ?_; conv => whnf
  repeat first | refine lwp_seq fun K hK => ?_ | (with_reducible refine gA ?_; apply_assumption -exfalso -symm) | refine Stp.h ?_ | refine gF rfl ?_ | refine gG rfl ?_ | refine gM hC rfl sd ?_
  (refine lwp_region hC ⟨[(3, { b := some false }), (6, { b := some false }), (8, { b := some false }), (11, { b := some false }), (13, { b := some false }), (16, { b := some false }), (18, { b := some false }), (21, { b := some false }), (23, { b := some false })], [], [(1, { f := 7, hin := jobIn l, args := [.sl 0 l.length], hout := [], ret := bl true, σ := [(0, some 2), (1, some 3)] }), (10, { f := 14, hin := jobIn l, args := [.sl 0 l.length], hout := [], ret := i64 0, σ := [(0, some 2), (1, some 3)] }), (20, { f := 15, hin := [(0, .ro H.length 1 (.ints .i64 H))], args := [.sl 0 H.length], hout := [], ret := i64 0, σ := [(0, some 4)] }), (25, { f := 16, hin := [], args := [.agg [i64 lo, i64 hi]], hout := [], ret := i64 0, σ := [] })]⟩ (told1 _ (by rw [hP]; exact (calls_cons (HSH.out) (calls_cons (HRJ.out) (calls_cons (HRH.out) (calls_cons (HRB.out) calls_nil)))))) rfl ?_ ?_; rotate_left 1)
  · repeat first | refine lwp_seq fun K hK => ?_ | (with_reducible refine gA ?_; apply_assumption -exfalso -symm) | refine Stp.h ?_ | refine gF rfl ?_ | refine gG rfl ?_ | refine gM hC rfl sd ?_
    refine lwp_condS hC rfl sd ?_ ?_ <;> intro hb
    · exact absurd hb (by simp)
    · clear hb
      repeat first | refine lwp_seq fun K hK => ?_ | (with_reducible refine gA ?_; apply_assumption -exfalso -symm) | refine Stp.h ?_ | refine gF rfl ?_ | refine gG rfl ?_ | refine gM hC rfl sd ?_
      (refine lwp_region hC ⟨[], [], [(1, Jobs_i l [(0, some 2), (1, some 3)]), (2, { f := 22, gl := [(0, 2)], hin := jobIn l ++ [(2, kdP)], args := [.sl 0 l.length], hout := [(3, .row 9 C.length 1 (strC C))], ret := .tup [.sl 3 C.length, i64 0], σ := [(0, some 6), (1, some 7), (2, some 1)] })]⟩ (told1 _ (by rw [hP]; exact (calls_cons (Jobs_s _ _ b1 b2) (calls_cons (HCH.out) calls_nil)))) rfl ?_ ?_; rotate_left 1)
      · repeat first | refine lwp_seq fun K hK => ?_ | (with_reducible refine gA ?_; apply_assumption -exfalso -symm) | refine Stp.h ?_ | refine gF rfl ?_ | refine gG rfl ?_ | refine gM hC rfl sd ?_
        refine lwp_condS hC rfl sd ?_ ?_ <;> intro hb
        · omega
        · clear hb
          have hcp := HCF.out.pos
          have hcl := HCF.out.le
          repeat first | refine lwp_seq fun K hK => ?_ | (with_reducible refine gA ?_; apply_assumption -exfalso -symm) | refine Stp.h ?_ | refine gF rfl ?_ | refine gG rfl ?_
          (refine lwp_region hC ⟨[(1, { b := some false }), (5, { b := some false, g := some true }), (12, { b := some false, g := some true })], [], []⟩ (told0 _ _) rfl ?_ ?_; rotate_left 1)
          · repeat first | refine lwp_seq fun K hK => ?_ | (with_reducible refine gA ?_; apply_assumption -exfalso -symm) | refine Stp.h ?_ | refine gF rfl ?_ | refine gG rfl ?_ | refine gM hC rfl sd ?_
            refine lwp_condS hC rfl sd ?_ ?_ <;> intro hb
            · exact absurd hb (by simp)
            · clear hb
              repeat first | refine lwp_seq fun K hK => ?_ | (with_reducible refine gA ?_; apply_assumption -exfalso -symm) | refine Stp.h ?_ | refine gF rfl ?_ | refine gG rfl ?_ | refine gM hC rfl sd ?_
              refine lwp_loop (fun i : Nat => ⟨[(110, i64 i), (109, i64 C.length), (108, .sl 8 C.length), (0, .sl 2 l.length), (1, .sl 4 H.length), (5, .ptr 5 0 0 0), (7, .sl 8 C.length)], [(8, .row 9 C.length 1 (strC C)), (5, .blk 25 [i64 lo, i64 hi]), (0, pwC), (1, kdC), (2, jbCh l 3), (3, fmCh l), (4, .ro H.length 1 (.ints .i64 H))], 9⟩) (fun i => i ≤ C.length) (fun i => C.length - i) 0 ⟨?_, sub_intro hm [(0, some 0), (1, some 1), (2, some 2), (3, some 3), (4, some 4), (5, some 5), (8, some 8)] rfl ?_⟩ ?_
              · exact Nat.zero_le _
              · exact sd
              · rintro i hi1
                have hii : ((i : Int)).toNat = i := Int.toNat_natCast i
                repeat first | refine lwp_seq fun K hK => ?_ | (with_reducible refine gA ?_; apply_assumption -exfalso -symm) | refine Stp.h ?_ | refine gF rfl ?_ | refine gG rfl ?_ | refine gM hC rfl sd ?_
                refine lwp_condS hC rfl sd ?_ ?_ <;> intro hb
                · have hi2 : i < C.length := by omega
                  clear hb
                  repeat first | refine lwp_seq fun K hK => ?_ | (with_reducible refine gA ?_; apply_assumption -exfalso -symm) | refine Stp.h ?_ | refine gF rfl ?_ | refine gG rfl ?_
                  (refine lwp_region hC ⟨[], [], []⟩ (told0 _ _) rfl ?_ ?_; rotate_left 1)
                  · rw [hii]
                    obtain ⟨k, hk1, hk2, hk3⟩ := HCF.out.at_ i hi2
                    obtain ⟨s, hs⟩ : ∃ s, C.getD i ByteArray.empty = s := ⟨_, rfl⟩
                    rw [hs] at hk2 ⊢
                    have HK2 := Lib.hid hk2
                    have HK3 := Lib.hid hk3
                    clear hs hk2 hk3
                    repeat first | refine lwp_seq fun K hK => ?_ | (with_reducible refine gA ?_; apply_assumption -exfalso -symm) | refine Stp.h ?_ | refine gF rfl ?_ | refine gG rfl ?_ | refine gM hC rfl sd ?_
                    refine lwp_loop (fun j : Nat => ⟨[(117, i64 j), (116, i64 l.length), (115, .sl 2 l.length), (14, i64 (lstK l s j)), (13, Sb s), (12, i64 i), (110, i64 i), (109, i64 C.length), (108, .sl 8 C.length), (0, .sl 2 l.length), (1, .sl 4 H.length), (5, .ptr 5 0 0 0), (7, .sl 8 C.length)], [(8, .row 9 C.length 1 (strC C)), (5, .blk 25 [i64 lo, i64 hi]), (0, pwC), (1, kdC), (2, jbCh l 3), (3, fmCh l), (4, .ro H.length 1 (.ints .i64 H))], 9⟩) (fun j => j ≤ l.length) (fun j => l.length - j) 0 ⟨?_, sub_intro hm [(0, some 0), (1, some 1), (2, some 2), (3, some 3), (4, some 4), (5, some 5), (8, some 8)] rfl ?_⟩ ?_
                    · exact Nat.zero_le _
                    · exact sd
                    · rintro j hj1
                      have hjj : ((j : Int)).toNat = j := Int.toNat_natCast j
                      have hst : lstK l s (j + 1) = if (l.getD j jbD).name = s then (j : Int) else lstK l s j := rfl
                      have HST := Lib.hid hst
                      clear hst
                      repeat first | refine lwp_seq fun K hK => ?_ | (with_reducible refine gA ?_; apply_assumption -exfalso -symm) | refine Stp.h ?_ | refine gF rfl ?_ | refine gG rfl ?_ | refine gM hC rfl sd ?_
                      refine lwp_condS hC rfl sd ?_ ?_ <;> intro hb
                      · have hj2 : j < l.length := by omega
                        clear hb
                        repeat first | refine lwp_seq fun K hK => ?_ | (with_reducible refine gA ?_; apply_assumption -exfalso -symm) | refine Stp.h ?_ | refine gF rfl ?_ | refine gG rfl ?_
                        (refine lwp_region hC ⟨[], [], []⟩ (told0 _ _) rfl ?_ ?_; rotate_left 1)
                        · rw [hjj]
                          repeat first | refine lwp_seq fun K hK => ?_ | (with_reducible refine gA ?_; apply_assumption -exfalso -symm) | refine Stp.h ?_ | refine gF rfl ?_ | refine gG rfl ?_ | refine gM hC rfl sd ?_
                          refine lwp_condS hC rfl sd ?_ ?_ <;> intro hb
                          · have hst := HST.out
                            rw [if_pos hb] at hst
                            have HST2 := Lib.hid hst
                            clear hb hst
                            repeat first | refine lwp_seq fun K hK => ?_ | (with_reducible refine gA ?_; apply_assumption -exfalso -symm) | refine Stp.h ?_ | refine gF rfl ?_ | refine gG rfl ?_ | refine gM hC rfl sd ?_
                            refine gA ⟨j + 1, ?_, ?_, sub_intro hm [(0, some 0), (1, some 1), (2, some 2), (3, some 3), (4, some 4), (5, some 5), (8, some 8)] rfl ?_⟩
                            · exact hj2
                            · omega
                            · rw [HST2.out]
                              exact sd
                          · have hst := HST.out
                            rw [if_neg hb] at hst
                            have HST2 := Lib.hid hst
                            clear hb hst
                            repeat first | refine lwp_seq fun K hK => ?_ | (with_reducible refine gA ?_; apply_assumption -exfalso -symm) | refine Stp.h ?_ | refine gF rfl ?_ | refine gG rfl ?_ | refine gM hC rfl sd ?_
                            refine gA ⟨j + 1, ?_, ?_, sub_intro hm [(0, some 0), (1, some 1), (2, some 2), (3, some 3), (4, some 4), (5, some 5), (8, some 8)] rfl ?_⟩
                            · exact hj2
                            · omega
                            · rw [HST2.out]
                              exact sd
                        · rw [hjj]
                          exact sd
                      · obtain rfl : j = l.length := by omega
                        clear hb
                        rw [HK2.out]
                        have hmm : ((k : Int)).toNat = k := Int.toNat_natCast k
                        repeat first | refine lwp_seq fun K hK => ?_ | (with_reducible refine gA ?_; apply_assumption -exfalso -symm) | refine Stp.h ?_ | refine gF rfl ?_ | refine gG rfl ?_
                        cases i with
                        | zero =>
                          (refine lwp_drawn2 hC (by rw [hP]; exact mixed) ⟨[(1, { b := some false }), (2, { b := some false }), (4, { b := some false }), (5, { b := some false }), (6, { g := some false }), (7, { g := some false }), (8, { g := some false }), (9, { g := some false }), (10, { g := some false }), (11, { g := some false }), (12, { g := some false }), (13, { g := some false }), (14, { g := some false }), (15, { g := some false }), (16, { g := some false }), (17, { g := some false })], [], []⟩ (told0 _ _) [0, 1, 3, 7, 15, 31, 63, 63, 255, 511, 1023, 63, 63, 4159, 14399, 30783, 65535, 131071, 262143, 524287] 20 0 rfl ?_ ?_; rotate_left 1)
                          · repeat first | refine lwp_seq fun K hK => ?_ | (with_reducible refine gA ?_; apply_assumption -exfalso -symm) | refine Stp.h ?_ | refine gF rfl ?_ | refine gG rfl ?_ | refine gM hC rfl sd ?_
                            refine lwp_condS hC rfl sd ?_ ?_ <;> intro hb
                            · exact absurd hb (by simp)
                            · clear hb
                              repeat first | refine lwp_seq fun K hK => ?_ | (with_reducible refine gA ?_; apply_assumption -exfalso -symm) | refine Stp.h ?_ | refine gF rfl ?_ | refine gG rfl ?_ | refine gM hC rfl sd ?_
                              refine gA ⟨1, ?_, ?_, sub_intro hm [(0, some 0), (1, some 1), (2, some 2), (3, some 3), (4, some 4), (5, some 5), (8, some 8)] rfl ?_⟩
                              · exact hi2
                              · omega
                              · exact sd
                          · exact sd
                        | succ i =>
                          have hi3 : (((i + 1 : Nat) : Int) - 1).toNat = i := by omega
                          have hm3 := HK3.out (Nat.succ_pos _)
                          rw [Nat.add_sub_cancel] at hm3
                          have hhw := HWd_s l k (C.getD i ByteArray.empty) [(0, some 3)] hk1 (by have := b2 k; omega)
                          unfold HWd_i at hhw
                          rw [hm3] at hhw
                          have HHW := Lib.hid hhw
                          clear hm3 hhw
                          (refine lwp_drawn2 hC (by rw [hP]; exact mixed) ⟨[(1, { b := some false }), (4, { b := some true, g := some true }), (5, { b := some true, g := some true })], [], [(16, { f := 23, hin := [(0, fmCh l)], args := [.tb 0 (.row k (lnJ l k)), Sb (C.getD i ByteArray.empty)], hout := [], ret := bl true, σ := [(0, some 3)] })]⟩ (told1 _ (by rw [hP]; exact (calls_cons (HHW.out) calls_nil))) [0, 1, 3, 7, 15, 31, 63, 63, 255, 511, 1023, 63, 63, 4159, 14399, 30783, 65535, 131071, 262143, 524287] 20 0 rfl ?_ ?_; rotate_left 1)
                          · repeat first | refine lwp_seq fun K hK => ?_ | (with_reducible refine gA ?_; apply_assumption -exfalso -symm) | refine Stp.h ?_ | refine gF rfl ?_ | refine gG rfl ?_ | refine gM hC rfl sd ?_
                            refine lwp_condS hC rfl sd ?_ ?_ <;> intro hb
                            · exact absurd hb (by simp)
                            · clear hb
                              repeat first | refine lwp_seq fun K hK => ?_ | (with_reducible refine gA ?_; apply_assumption -exfalso -symm) | refine Stp.h ?_ | refine gF rfl ?_ | refine gG rfl ?_ | refine gM hC rfl sd ?_
                              refine gA ⟨i + 1 + 1, ?_, ?_, sub_intro hm [(0, some 0), (1, some 1), (2, some 2), (3, some 3), (4, some 4), (5, some 5), (8, some 8)] rfl ?_⟩
                              · exact hi2
                              · omega
                              · exact sd
                          · rw [hmm, hi3]
                            exact sd
                  · rw [hii]
                    exact sd
                · obtain rfl : i = C.length := by omega
                  clear hb
                  rcases HS.out with hs | ⟨x, d, hs⟩
                  · have hsq := Sq_s l H lo hi [(0, some 9), (1, some 10), (2, some 11), (3, some 1)] b1 b2 b4
                    unfold Sq_i at hsq
                    rw [hs] at hsq
                    have HSQ := Lib.hid hsq
                    clear hsq hs
                    repeat first | refine lwp_seq fun K hK => ?_ | (with_reducible refine gA ?_; apply_assumption -exfalso -symm) | refine Stp.h ?_ | refine gF rfl ?_ | refine gG rfl ?_ | refine gM hC rfl sd ?_
                    (refine lwp_drawn hC (by rw [hP]; exact mixed) ⟨[], [], [(1, Jobs_i l [(0, some 2), (1, some 3)]), (3, LInts_i H [(0, some 4)]), (5, { f := 12, gl := [(0, 3)], hin := jhIn l H, args := [.sl 0 l.length, .sl 2 H.length, .agg [i64 lo, i64 hi]], hout := [(4, .row 3 ([] : List Int).length 1 (.ints .i64 ([] : List Int)))], ret := .tup [.sl 4 ([] : List Int).length, i64 0, i64 18], σ := [(0, some 9), (1, some 10), (2, some 11), (3, some 1)] })]⟩ (told1 _ (by rw [hP]; exact (calls_cons (Jobs_s _ _ b1 b2) (calls_cons (LInts_s _ _ (by omega)) (calls_cons (HSQ.out) calls_nil))))) [0, 1, 0, 7, 0, 31, 63, 127, 127, 127, 255, 1535, 4095] 12 rfl ?_ ?_; rotate_left 1)
                    · repeat first | refine lwp_seq fun K hK => ?_ | (with_reducible refine gA ?_; apply_assumption -exfalso -symm) | refine Stp.h ?_ | refine gF rfl ?_ | refine gG rfl ?_ | refine gM hC rfl sd ?_
                      refine lwp_condS hC rfl sd ?_ ?_ <;> intro hb
                      · clear hb
                        repeat first | refine lwp_seq fun K hK => ?_ | (with_reducible refine gA ?_; apply_assumption -exfalso -symm) | refine Stp.h ?_ | refine gF rfl ?_ | refine gG rfl ?_ | refine gM hC rfl sd ?_
                        (refine lwp_region hC ⟨[], [], [(0, Awake_i)]⟩ (told1 _ (by rw [hP]; exact (calls_cons (Awake_s) calls_nil))) rfl ?_ ?_; rotate_left 1)
                        · repeat first | refine lwp_seq fun K hK => ?_ | (with_reducible refine gA ?_; apply_assumption -exfalso -symm) | refine Stp.h ?_ | refine gF rfl ?_ | refine gG rfl ?_ | refine gM hC rfl sd ?_
                          (refine end_intro (by first | exact .inr rfl | exact .inl rfl) [] rfl ?_)
                          exact ⟨rfl, trivial⟩
                        · exact sd
                      · exact absurd rfl hb
                    · exact sd
                  · obtain ⟨s1, s2, s3, s4, s5, s6, s7⟩ := hs
                    have hsq := Sq_s l H lo hi [(0, some 9), (1, some 10), (2, some 11), (3, some 1)] b1 b2 b4
                    unfold Sq_i at hsq
                    rw [s1] at hsq
                    have hcs := CSq_s l H lo hi x [(0, some 13), (1, some 14), (2, some 15), (3, some 16), (4, some 1)] b1 b2 b4 (by omega)
                    unfold CSq_i at hcs
                    rw [s3] at hcs
                    have HSQ := Lib.hid hsq
                    have HCS := Lib.hid hcs
                    have HLS := Lib.hid s6
                    have HMO := Lib.hid s7
                    clear hsq hcs s1 s3 s6 s7
                    repeat first | refine lwp_seq fun K hK => ?_ | (with_reducible refine gA ?_; apply_assumption -exfalso -symm) | refine Stp.h ?_ | refine gF rfl ?_ | refine gG rfl ?_ | refine gM hC rfl sd ?_
                    (refine lwp_drawn hC (by rw [hP]; exact mixed) ⟨[], [], [(1, Jobs_i l [(0, some 2), (1, some 3)]), (3, LInts_i H [(0, some 4)]), (5, { f := 12, gl := [(0, 3)], hin := jhIn l H, args := [.sl 0 l.length, .sl 2 H.length, .agg [i64 lo, i64 hi]], hout := [(4, .row 3 x.length 1 (.ints .i64 x))], ret := .tup [.sl 4 x.length, i64 d, i64 0], σ := [(0, some 9), (1, some 10), (2, some 11), (3, some 1)] })]⟩ (told1 _ (by rw [hP]; exact (calls_cons (Jobs_s _ _ b1 b2) (calls_cons (LInts_s _ _ (by omega)) (calls_cons (HSQ.out) calls_nil))))) [0, 1, 0, 7, 0, 31, 63, 127, 127, 127, 255, 1535, 4095] 12 rfl ?_ ?_; rotate_left 1)
                    · repeat first | refine lwp_seq fun K hK => ?_ | (with_reducible refine gA ?_; apply_assumption -exfalso -symm) | refine Stp.h ?_ | refine gF rfl ?_ | refine gG rfl ?_ | refine gM hC rfl sd ?_
                      refine lwp_condS hC rfl sd ?_ ?_ <;> intro hb
                      · exact absurd hb (by decide)
                      · clear hb
                        repeat first | refine lwp_seq fun K hK => ?_ | (with_reducible refine gA ?_; apply_assumption -exfalso -symm) | refine Stp.h ?_ | refine gF rfl ?_ | refine gG rfl ?_ | refine gM hC rfl sd ?_
                        refine lwp_condS hC rfl sd ?_ ?_ <;> intro hb
                        · exact absurd rfl hb
                        · clear hb
                          repeat first | refine lwp_seq fun K hK => ?_ | (with_reducible refine gA ?_; apply_assumption -exfalso -symm) | refine Stp.h ?_ | refine gF rfl ?_ | refine gG rfl ?_ | refine gM hC rfl sd ?_
                          (refine lwp_drawn hC (by rw [hP]; exact mixed) ⟨[], [], [(1, Jobs_i l [(0, some 2), (1, some 3)]), (3, LInts_i H [(0, some 4)]), (6, LInts_i x [(0, some 12)]), (7, { f := 9, gl := [(0, 4)], hin := csIn l H x, args := [.sl 0 l.length, .sl 2 H.length, .agg [i64 lo, i64 hi], .sl 3 x.length], hout := [], ret := .tup [i64 d, i64 0], σ := [(0, some 13), (1, some 14), (2, some 15), (3, some 16), (4, some 1)] })]⟩ (told1 _ (by rw [hP]; exact (calls_cons (Jobs_s _ _ b1 b2) (calls_cons (LInts_s _ _ (by omega)) (calls_cons (LInts_s _ _ (by omega)) (calls_cons (HCS.out) calls_nil)))))) [0, 1, 0, 7, 0, 0, 47, 127, 255, 511, 511, 1023, 4095] 12 rfl ?_ ?_; rotate_left 1)
                          · repeat first | refine lwp_seq fun K hK => ?_ | (with_reducible refine gA ?_; apply_assumption -exfalso -symm) | refine Stp.h ?_ | refine gF rfl ?_ | refine gG rfl ?_
                            (refine lwp_region hC ⟨[(1, { b := some false }), (5, { b := some false, g := some true }), (9, { b := some false, g := some true }), (15, { b := some false, g := some true }), (22, { b := some false, g := some true })], [], []⟩ (told0 _ _) rfl ?_ ?_; rotate_left 1)
                            · repeat first | refine lwp_seq fun K hK => ?_ | (with_reducible refine gA ?_; apply_assumption -exfalso -symm) | refine Stp.h ?_ | refine gF rfl ?_ | refine gG rfl ?_ | refine gM hC rfl sd ?_
                              refine lwp_condS hC rfl sd ?_ ?_ <;> intro hb
                              · exact absurd hb (by simp)
                              · clear hb
                                refine Stp.h ?_
                                ((with_reducible refine gA ?_); apply_assumption -exfalso -symm)
                                refine lwp_cut (t := ⟨[(0, .sl 2 l.length), (1, .sl 4 H.length), (5, .ptr 5 0 0 0), (18, i64 d)], [(5, .blk 25 [i64 lo, i64 hi]), (0, pwC), (1, kdC), (2, jbCh l 3), (3, fmCh l), (4, .ro H.length 1 (.ints .i64 H))], 9⟩) ?_ ?_
                                · repeat first | refine lwp_seq fun K hK => ?_ | (with_reducible refine gA ?_; apply_assumption -exfalso -symm) | refine Stp.h ?_ | refine gF rfl ?_ | refine gG rfl ?_ | refine gM hC rfl ⟨⟩ ?_
                                  refine lwp_condS hC rfl sd ?_ ?_ <;> intro hb
                                  · have hd : 0 < d := by omega
                                    have hsl := Sq_s l (H.take d) lo hi [(0, some 17), (1, some 18), (2, some 20), (3, some 1)] b1 b2 (by rw [List.length_take]; omega)
                                    unfold Sq_i at hsl
                                    rw [HLS.out hd] at hsl
                                    have HSL := Lib.hid hsl
                                    clear hb hsl
                                    have hdt : ((d : Int)).toNat = d := Int.toNat_natCast d
                                    have hlt : (H.take d).length = d := by rw [List.length_take]; omega
                                    repeat first | refine lwp_seq fun K hK => ?_ | (with_reducible refine gA ?_; apply_assumption -exfalso -symm) | refine Stp.h ?_ | refine gF rfl ?_ | refine gG rfl ?_
                                    (refine lwp_drawn hC (by rw [hP]; exact mixed) ⟨[], [], [(1, Jobs_i l [(0, some 2), (1, some 3)]), (5, LInts_i (H.take d) [(0, some 19)]), (7, { f := 12, gl := [(0, 3)], hin := jhIn l (H.take d), args := [.sl 0 l.length, .sl 2 (H.take d).length, .agg [i64 lo, i64 hi]], hout := [(4, .row 3 ([] : List Int).length 1 (.ints .i64 ([] : List Int)))], ret := .tup [.sl 4 ([] : List Int).length, i64 0, i64 18], σ := [(0, some 17), (1, some 18), (2, some 20), (3, some 1)] })]⟩ (told1 _ (by rw [hP]; exact (calls_cons (Jobs_s _ _ b1 b2) (calls_cons (LInts_s _ _ (by omega)) (calls_cons (HSL.out) calls_nil))))) [0, 1, 0, 0, 12, 31, 0, 127, 255, 511, 511, 511, 1023, 6143, 16383] 14 rfl ?_ ?_; rotate_left 1)
                                    · repeat first | refine lwp_seq fun K hK => ?_ | (with_reducible refine gA ?_; apply_assumption -exfalso -symm) | refine Stp.h ?_ | refine gF rfl ?_ | refine gG rfl ?_ | refine gM hC rfl sd ?_
                                      refine lwp_condS hC rfl sd ?_ ?_ <;> intro hb
                                      · exact absurd rfl hb
                                      · clear hb
                                        repeat first | refine lwp_seq fun K hK => ?_ | (with_reducible refine gA ?_; apply_assumption -exfalso -symm) | refine Stp.h ?_ | refine gF rfl ?_ | refine gG rfl ?_ | refine gM hC rfl sd ?_
                                        refine gA (sub_intro hm [(0, some 0), (1, some 1), (2, some 2), (3, some 3), (4, some 4), (5, some 5)] rfl ?_)
                                        exact sd
                                    · rw [hdt, Nat.sub_zero, List.drop_zero]
                                      exact sd
                                  · clear hb
                                    repeat first | refine lwp_seq fun K hK => ?_ | (with_reducible refine gA ?_; apply_assumption -exfalso -symm) | refine Stp.h ?_ | refine gF rfl ?_ | refine gG rfl ?_ | refine gM hC rfl sd ?_
                                    refine gA (sub_intro hm [(0, some 0), (1, some 1), (2, some 2), (3, some 3), (4, some 4), (5, some 5)] rfl ?_)
                                    exact sd
                                · repeat first | refine lwp_seq fun K hK => ?_ | (with_reducible refine gA ?_; apply_assumption -exfalso -symm) | refine Stp.h ?_ | refine gF rfl ?_ | refine gG rfl ?_ | refine gM hC rfl sd ?_
                                  refine lwp_condS hC rfl sd ?_ ?_ <;> intro hb
                                  · have hH5 : H.length < 5 := by omega
                                    obtain ⟨y, d2, m1, m2, m3⟩ := HMO.out hH5
                                    have hsm := Sq_s l (H ++ [0]) lo hi [(0, some 9), (1, some 10), (2, some 13), (3, some 1)] b1 b2 (by simp; omega)
                                    unfold Sq_i at hsm
                                    rw [m1] at hsm
                                    have HSM := Lib.hid hsm
                                    clear hb hsm m1
                                    repeat first | refine lwp_seq fun K hK => ?_ | (with_reducible refine gA ?_; apply_assumption -exfalso -symm) | refine Stp.h ?_ | refine gF rfl ?_ | refine gG rfl ?_
                                    (refine X.lwp_drawnX hC (by rw [hP]; exact mixed) ⟨[], [], [(1, Jobs_i l [(0, some 2), (1, some 3)]), (3, LInts_i H [(0, some 4)]), (7, { f := 12, gl := [(0, 3)], hin := jhIn l (H ++ [0]), args := [.sl 0 l.length, .sl 2 (H ++ [0]).length, .agg [i64 lo, i64 hi]], hout := [(4, .row 3 y.length 1 (.ints .i64 y))], ret := .tup [.sl 4 y.length, i64 d2, i64 0], σ := [(0, some 9), (1, some 10), (2, some 13), (3, some 1)] })]⟩ (told1 _ (by rw [hP]; exact (calls_cons (Jobs_s _ _ b1 b2) (calls_cons (LInts_s _ _ (by omega)) (calls_cons (HSM.out) calls_nil))))) [] (some (5, 3, 11, .row 3 H.length 1 (.ints .i64 H))) [0, 1, 0, 7, 0, 31, 0, 127, 255, 511, 511, 511, 1023, 6143, 16383] 14 rfl ?_ ?_; rotate_left 1)
                                    · repeat first | refine lwp_seq fun K hK => ?_ | (with_reducible refine gA ?_; apply_assumption -exfalso -symm) | refine Stp.h ?_ | refine gF rfl ?_ | refine gG rfl ?_
                                      (refine lwp_region hC ⟨[(1, { b := some false }), (5, { b := some false, g := some true })], [], []⟩ (told0 _ _) rfl ?_ ?_; rotate_left 1)
                                      · repeat first | refine lwp_seq fun K hK => ?_ | (with_reducible refine gA ?_; apply_assumption -exfalso -symm) | refine Stp.h ?_ | refine gF rfl ?_ | refine gG rfl ?_ | refine gM hC rfl sd ?_
                                        refine lwp_condS hC rfl sd ?_ ?_ <;> intro hb
                                        · exact absurd hb (by simp)
                                        · clear hb
                                          repeat first | refine lwp_seq fun K hK => ?_ | (with_reducible refine gA ?_; apply_assumption -exfalso -symm) | refine Stp.h ?_ | refine gF rfl ?_ | refine gG rfl ?_ | refine gM hC rfl sd ?_
                                          (refine lwp_region hC ⟨[], [], [(0, Awake_i)]⟩ (told1 _ (by rw [hP]; exact (calls_cons (Awake_s) calls_nil))) rfl ?_ ?_; rotate_left 1)
                                          · repeat first | refine lwp_seq fun K hK => ?_ | (with_reducible refine gA ?_; apply_assumption -exfalso -symm) | refine Stp.h ?_ | refine gF rfl ?_ | refine gG rfl ?_ | refine gM hC rfl sd ?_
                                            (refine end_intro (by first | exact .inr rfl | exact .inl rfl) [] rfl ?_)
                                            exact ⟨rfl, trivial⟩
                                          · exact sd
                                      · exact sd
                                    · have hll : (H ++ [0]).length = H.length + 1 := by simp
                                      simp only [AllL, All, cd_p, cp_p, cv_p, and_true, true_and]
                                      exact ⟨⟨hll, fun _ _ => trivial, fun _ _ => trivial, hll⟩, by omega, X.made_one rfl, fun _ _ => trivial, fun _ _ => trivial⟩
                                  · clear hb
                                    repeat first | refine lwp_seq fun K hK => ?_ | (with_reducible refine gA ?_; apply_assumption -exfalso -symm) | refine Stp.h ?_ | refine gF rfl ?_ | refine gG rfl ?_ | refine gM hC rfl sd ?_
                                    (refine lwp_region hC ⟨[], [], [(0, Awake_i)]⟩ (told1 _ (by rw [hP]; exact (calls_cons (Awake_s) calls_nil))) rfl ?_ ?_; rotate_left 1)
                                    · repeat first | refine lwp_seq fun K hK => ?_ | (with_reducible refine gA ?_; apply_assumption -exfalso -symm) | refine Stp.h ?_ | refine gF rfl ?_ | refine gG rfl ?_ | refine gM hC rfl sd ?_
                                      (refine end_intro (by first | exact .inr rfl | exact .inl rfl) [] rfl ?_)
                                      exact ⟨rfl, trivial⟩
                                    · exact sd
                            · exact sd
                          · exact sd
                    · exact sd
          · exact sd
      · exact sd
  · exact sd
theorem LawDy_s (l : List Jb) (H : List Int) (lo hi : Int) (hl : l.length ≤ 9223372036854775807) (hH : H.length ≤ 9223372036854775807) (hln : ∀ k, lnJ l k ≤ 9223372036854775807) : (LawDy_i l H lo hi).ok Tryz.prog := by
  by_cases h : shJ l = true ∧ l.length ≤ 4 ∧ jobsE l = 0 ∧ H.length ≤ 5 ∧ heatE H = 0 ∧ bandS lo hi = 0
  · obtain ⟨c1, c2, c3, c4, c5, c6⟩ := h
    by_cases c7 : l.length = 0
    · exact LawDy_nil l H lo hi hl hln c1 c3 c4 c5 c6 c7
    · exact LawDy_in l H lo hi hl hln c1 c2 c3 c4 c5 c6 (by omega)
  · exact LawDy_out l H lo hi hl hH hln h

end Go.Proofs.YtlhgddgoblliaaaGreatDoor
