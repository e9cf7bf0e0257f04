/- PlanChains: the law as a run. -/
import Derived.Test.YtccddhoeampdjaaGreatDoorVi
import Derived.Test.YtccddhoeampdjaaGreatDoorVk
import Derived.Test.YtccddhoeampdjaaGreatDoorPx
set_option linter.unusedVariables false
set_option linter.unusedSimpArgs false
namespace Go.Proofs.YtccddhoeampdjaaGreatDoor
open Go.RowKit Go.Sym

def SameW_i (l : List ByteArray) (σ : Ren) : Inst := { f := 66, hin := [(0, .ro l.length 1 (strC l)), (1, .ro l.length 1 (strC l))], args := [.sl 0 l.length, .sl 1 l.length], hout := [], ret := bl true, σ := σ }
set_option maxRecDepth 20000 in
theorem SameW_s (l : List ByteArray) (σ : Ren) (hl : l.length ≤ 1000000) : (SameW_i l σ).ok Tryz.prog := by
  unfold SameW_i Inst.ok; dsimp only; refine spec_of_body (tys := tys) 2 Tryz.func66 (by kernel_rfl) rfl tys_ok rfl (Nat.le_of_ble_eq_true rfl) (fun _ _ h => (by cases h)) fun F hP hm hC hrd => ?_; conv => whnf
  repeat first | refine lwp_seq fun K hK => ?_ | (with_reducible refine gA ?_; apply_assumption -exfalso -symm) | refine Stp.h ?_ | refine gF rfl ?_ | refine gG rfl ?_ | refine gM hC rfl sd ?_
  refine lwp_condS hC rfl sd ?_ ?_ <;> intro hb
  · exact absurd rfl hb
  · clear hb
    repeat first | refine lwp_seq fun K hK => ?_ | (with_reducible refine gA ?_; apply_assumption -exfalso -symm) | refine Stp.h ?_ | refine gF rfl ?_ | refine gG rfl ?_ | refine gM hC rfl sd ?_
    refine lwp_loop (fun k : Nat => ⟨[(5, i64 k), (0, .sl 0 l.length), (1, .sl 1 l.length)], [(0, .ro l.length 1 (strC l)), (1, .ro l.length 1 (strC l))], 2⟩) (fun k => k ≤ l.length) (fun k => l.length - k) 0 ⟨?_, sub_intro hm [(0, some 0), (1, some 1)] rfl ?_⟩ ?_
    · exact Nat.zero_le _
    · exact sd
    · rintro k hk
      have hkk : ((k : Int)).toNat = k := Int.toNat_natCast k
      repeat first | refine lwp_seq fun K hK => ?_ | (with_reducible refine gA ?_; apply_assumption -exfalso -symm) | refine Stp.h ?_ | refine gF rfl ?_ | refine gG rfl ?_ | refine gM hC rfl sd ?_
      refine lwp_condS hC rfl sd ?_ ?_ <;> intro hb
      · have hk2 : k < l.length := by omega
        repeat first | refine lwp_seq fun K hK => ?_ | (with_reducible refine gA ?_; apply_assumption -exfalso -symm) | refine Stp.h ?_ | refine gF rfl ?_ | refine gG rfl ?_ | refine gM hC rfl ⟨⟩ ?_
        (refine lwp_drawn hC (by rw [hP]; exact mixed) ⟨[], [], []⟩ (told0 _ _) [0, 0, 3, 7, 0, 0, 48, 112, 255] 8 rfl ?_ ?_; rotate_left 1)
        · repeat first | refine lwp_seq fun K hK => ?_ | (with_reducible refine gA ?_; apply_assumption -exfalso -symm) | refine Stp.h ?_ | refine gF rfl ?_ | refine gG rfl ?_ | refine gM hC rfl ⟨⟩ ?_
          refine lwp_condS hC rfl sd ?_ ?_ <;> intro hb
          · simp at hb
          · repeat first | refine lwp_seq fun K hK => ?_ | (with_reducible refine gA ?_; apply_assumption -exfalso -symm) | refine Stp.h ?_ | refine gF rfl ?_ | refine gG rfl ?_ | refine gM hC rfl sd ?_
            refine gA ⟨k + 1, ?_, ?_, sub_intro hm [(0, some 0), (1, some 1)] rfl ?_⟩
            · omega
            · omega
            · exact sd
        · exact sd
      · repeat first | refine lwp_seq fun K hK => ?_ | (with_reducible refine gA ?_; apply_assumption -exfalso -symm) | refine Stp.h ?_ | refine gF rfl ?_ | refine gG rfl ?_ | refine gM hC rfl sd ?_
        (refine end_intro (by first | exact .inr rfl | exact .inl rfl) [] rfl ?_)
        exact ⟨rfl, trivial⟩

theorem shJ_len {l : List Jb} (h : shJ l = true) : l.length ≤ 1000 ∧ (∀ k, lnJ l k ≤ 1000) ∧ Szs l := by
  unfold shJ at h
  rw [Bool.and_eq_true, Bool.or_eq_true, List.all_eq_true] at h
  obtain ⟨h1, h2⟩ := h
  have h2 : (l.length : Int) ≤ 4 ∨ (l.length : Int) = 9 := h2.imp of_decide_eq_true of_decide_eq_true
  have hat : ∀ k, k < l.length → okJ (l.getD k jbD) = true := fun k hk => by
    rw [List.getD_eq_getElem?_getD, List.getElem?_eq_getElem hk]
    exact h1 _ (List.getElem_mem hk)
  have hno : ∀ k, ¬ k < l.length → l.getD k jbD = jbD := fun k hk => by
    rw [List.getD_eq_getElem?_getD, List.getElem?_eq_none (by omega)]; rfl
  refine ⟨by omega, fun k => ?_, ⟨fun k => ?_⟩⟩
  · by_cases hk : k < l.length
    · have := hat k hk
      unfold okJ at this
      simp only [Bool.and_eq_true, decide_eq_true_eq] at this
      show (l.getD k jbD).af.length ≤ 1000
      omega
    · show (l.getD k jbD).af.length ≤ 1000
      rw [hno k hk]; exact Nat.zero_le _
  · by_cases hk : k < l.length
    · have := hat k hk
      unfold okJ at this
      simp only [Bool.and_eq_true, decide_eq_true_eq] at this
      omega
    · rw [hno k hk]; exact Nat.zero_le _
theorem firstS_hd {e : Int} (h : ¬ e = 0) (l : List Int) : firstS (e :: l) = e := by
  unfold firstS
  split
  · rename_i h2; exact absurd (by simpa using h2) h
  · rfl
theorem chS_nil {l : List Jb} (h : l.length = 0) : chS l = [] := by
  obtain rfl : l = [] := List.eq_nil_of_length_eq_zero h
  rfl
theorem jobsE_ok {l : List Jb} (h : jobsE l = 0) : l.length ≤ 8 ∧ jbsE l = 0 ∧ cycB l = false := by
  unfold jobsE at h
  split at h
  · cases h
  · have h4 := (firstS_cons _ _).1 h
    have h5 := (firstS_cons _ _).1 h4.2
    have h6 := (whenS_zero (by decide)).1 ((firstS_cons _ _).1 h5.2).1
    exact ⟨by omega, h4.1, h6⟩

def jobLaw (l : List Jb) : List (Nat × Chunk) := [(0, pwC), (1, kdC), (2, jbCh l 3), (3, fmCh l)]
def LawCh_i (l : List Jb) : Inst := { f := 10, gl := lawG, hin := jobLaw l, args := [.sl 2 l.length], hout := [], ret := bl true, σ := [] }
set_option maxRecDepth 20000 in
set_option maxHeartbeats 4000000 in
theorem LawCh_s (l : List Jb) (hl : l.length ≤ 9223372036854775807) (hln : ∀ k, lnJ l k ≤ 9223372036854775807) : (LawCh_i l).ok Tryz.prog := by
  by_cases hs : shJ l = true
  · obtain ⟨b1, b2, b3⟩ := shJ_len hs
    have hsh := ShJ_s l [(0, some 2), (1, some 3)] hl hln
    unfold ShJ_i at hsh
    rw [hs] at hsh
    have HSH := Lib.hid hsh
    by_cases hz : jobsE l = 0
    · obtain ⟨z1, z2, z3⟩ := jobsE_ok hz
      obtain ⟨rk, hrk⟩ := jobs_ranked z2 z3
      have hc := Chn_s l [(0, some 4), (1, some 5), (2, some 1)] b1 b2
      have e1 : chR l = chS l := by
        unfold chR
        split
        · rfl
        · rename_i h
          refine (chS_nil ?_).symm
          by_cases h0 : (l.length : Int) = 0
          · omega
          · refine absurd ?_ h
            unfold chE2
            rw [hz, decide_eq_false h0]; rfl
      have e2 : chE2 l = if l.length = 0 then 7 else 0 := by
        unfold chE2
        rw [hz]
        by_cases h0 : l.length = 0
        · rw [if_pos h0, decide_eq_true (by omega)]; rfl
        · rw [if_neg h0, decide_eq_false (by omega)]; rfl
      unfold Chn_i at hc
      rw [e1, e2] at hc
      have hr := RCJ_s l [(0, some 2), (1, some 3)] b1 b2 b3
      unfold RCJ_i at hr
      rw [hz] at hr
      have hn := RCn_s l [(0, some 2), (1, some 3)] b1 b2 hrk
      have hlen : (chS l).length ≤ l.length := by
        unfold chS
        rw [nmsJ_len]
        exact bsJ_len l _ _
      have hsm := SameW_s (chS l) [(0, some 6), (1, some 7)] (by omega)
      unfold RCn_i at hn
      unfold SameW_i at hsm
      obtain ⟨C, hC⟩ : ∃ C, chS l = C := ⟨_, rfl⟩
      obtain ⟨e, he⟩ : ∃ e : Int, (if l.length = 0 then 7 else 0) = e := ⟨_, rfl⟩
      rw [hC, he] at hc hn
      rw [hC] at hsm hlen
      have HC := Lib.hid hc
      have HR := Lib.hid hr
      have HN := Lib.hid hn
      have HSM := Lib.hid hsm
      have HRK := Lib.hid hrk
      clear hc hr hn hsm hrk e1 e2 hC he hs hsh hz z1 z2 z3 b3
      unfold LawCh_i jobLaw Inst.ok; dsimp only; refine spec_of_body (tys := tys) 4 Tryz.func10 (by kernel_rfl) rfl tys_ok rfl (Nat.le_of_ble_eq_true rfl) (fun g i h => by simp only [List.mem_cons, List.not_mem_nil, or_false, Prod.mk.injEq] at h; omega) fun F hP hm hC hrd => ?_; conv => whnf
      repeat first | refine lwp_seq fun K hK => ?_ | (with_reducible refine gA ?_; apply_assumption -exfalso -symm) | refine Stp.h ?_ | refine gF rfl ?_ | refine gG rfl ?_ | refine gM hC rfl sd ?_
      (refine lwp_region hC ⟨[], [], [(1, { f := 61, hin := jobIn l, args := [.sl 0 l.length], hout := [], ret := bl true, σ := [(0, some 2), (1, some 3)] })]⟩ (told1 _ (by rw [hP]; exact (calls_cons (HSH.out) calls_nil))) rfl ?_ ?_; rotate_left 1)
      · repeat first | refine lwp_seq fun K hK => ?_ | (with_reducible refine gA ?_; apply_assumption -exfalso -symm) | refine Stp.h ?_ | refine gF rfl ?_ | refine gG rfl ?_ | refine gM hC rfl sd ?_
        refine lwp_condS hC rfl sd ?_ ?_ <;> intro hb
        · simp at hb
        · clear hb
          repeat first | refine lwp_seq fun K hK => ?_ | (with_reducible refine gA ?_; apply_assumption -exfalso -symm) | refine Stp.h ?_ | refine gF rfl ?_ | refine gG rfl ?_ | refine gM hC rfl sd ?_
          (refine lwp_region hC ⟨[], [], [(1, Jobs_i l [(0, some 2), (1, some 3)]), (2, { f := 62, gl := [(0, 2)], hin := jobIn l ++ [(2, kdP)], args := [.sl 0 l.length], hout := [(3, .row 9 C.length 1 (strC C))], ret := .tup [.sl 3 C.length, i64 e], σ := [(0, some 4), (1, some 5), (2, some 1)] })]⟩ (told1 _ (by rw [hP]; exact (calls_cons (Jobs_s _ _ b1 b2) (calls_cons (HC.out) calls_nil)))) rfl ?_ ?_; rotate_left 1)
          · repeat first | refine lwp_seq fun K hK => ?_ | (with_reducible refine gA ?_; apply_assumption -exfalso -symm) | refine Stp.h ?_ | refine gF rfl ?_ | refine gG rfl ?_ | refine gM hC rfl sd ?_
            (refine lwp_region hC ⟨[], [], [(1, { f := 64, hin := jobIn l, args := [.sl 0 l.length], hout := [], ret := i64 0, σ := [(0, some 2), (1, some 3)] })]⟩ (told1 _ (by rw [hP]; exact (calls_cons (HR.out) calls_nil))) rfl ?_ ?_; rotate_left 1)
            · repeat first | refine lwp_seq fun K hK => ?_ | (with_reducible refine gA ?_; apply_assumption -exfalso -symm) | refine Stp.h ?_ | refine gF rfl ?_ | refine gG rfl ?_ | refine gM hC rfl sd ?_
              refine lwp_condS hC rfl sd ?_ ?_ <;> intro hb
              · clear hb
                repeat first | refine lwp_seq fun K hK => ?_ | (with_reducible refine gA ?_; apply_assumption -exfalso -symm) | refine Stp.h ?_ | refine gF rfl ?_ | refine gG rfl ?_ | refine gM hC rfl sd ?_
                (refine lwp_region hC ⟨[], [], [(1, { f := 65, hin := jobIn l, args := [.sl 0 l.length], hout := [(2, .row 9 C.length 1 (strC C))], ret := .tup [.sl 2 C.length, i64 e], σ := [(0, some 2), (1, some 3)] })]⟩ (told1 _ (by rw [hP]; exact (calls_cons (HN.out) calls_nil))) rfl ?_ ?_; rotate_left 1)
                · repeat first | refine lwp_seq fun K hK => ?_ | (with_reducible refine gA ?_; apply_assumption -exfalso -symm) | refine Stp.h ?_ | refine gF rfl ?_ | refine gG rfl ?_ | refine gM hC rfl sd ?_
                  (refine lwp_region hC ⟨[(3, { b := some true }), (8, { b := some true, g := some true })], [], [(2, { f := 66, hin := [(0, .ro C.length 1 (strC C)), (1, .ro C.length 1 (strC C))], args := [.sl 0 C.length, .sl 1 C.length], hout := [], ret := bl true, σ := [(0, some 6), (1, some 7)] }), (9, Awake_i)]⟩ (told1 _ (by rw [hP]; exact (calls_cons (HSM.out) (calls_cons (Awake_s) calls_nil)))) rfl ?_ ?_; rotate_left 1)
                  · repeat first | refine lwp_seq fun K hK => ?_ | (with_reducible refine gA ?_; apply_assumption -exfalso -symm) | refine Stp.h ?_ | refine gF rfl ?_ | refine gG rfl ?_ | refine gM hC rfl sd ?_
                    (refine end_intro (by first | exact .inr rfl | exact .inl rfl) [] rfl ?_)
                    exact ⟨rfl, trivial⟩
                  · exact sd
                · exact sd
              · exact absurd rfl hb
            · exact sd
          · exact sd
      · exact sd
    · have hz2 : ¬ chE2 l = 0 := fun h => hz (chE2_zero h).1
      have e1 : chR l = [] := if_neg hz2
      have e2 : chE2 l = jobsE l := by
        unfold chE2
        exact firstS_hd hz _
      have hc := Chn_s l [(0, some 4), (1, some 5), (2, some 1)] b1 b2
      unfold Chn_i at hc
      rw [e1, e2] at hc
      have hr := RCJ_s l [(0, some 2), (1, some 3)] b1 b2 b3
      unfold RCJ_i at hr
      have hsm := SameW_s [] [(0, some 6), (1, none)] (by decide)
      obtain ⟨e, he⟩ : ∃ e, jobsE l = e := ⟨_, rfl⟩
      rw [he] at hc hr hz
      have HC := Lib.hid hc
      have HR := Lib.hid hr
      have HSM := Lib.hid hsm
      clear hc hr hsm he hs hsh hz2 e1 e2 b3
      unfold LawCh_i jobLaw Inst.ok; dsimp only; refine spec_of_body (tys := tys) 4 Tryz.func10 (by kernel_rfl) rfl tys_ok rfl (Nat.le_of_ble_eq_true rfl) (fun g i h => by simp only [List.mem_cons, List.not_mem_nil, or_false, Prod.mk.injEq] at h; omega) fun F hP hm hC hrd => ?_; conv => whnf
      repeat first | refine lwp_seq fun K hK => ?_ | (with_reducible refine gA ?_; apply_assumption -exfalso -symm) | refine Stp.h ?_ | refine gF rfl ?_ | refine gG rfl ?_ | refine gM hC rfl sd ?_
      (refine lwp_region hC ⟨[], [], [(1, { f := 61, hin := jobIn l, args := [.sl 0 l.length], hout := [], ret := bl true, σ := [(0, some 2), (1, some 3)] })]⟩ (told1 _ (by rw [hP]; exact (calls_cons (HSH.out) calls_nil))) rfl ?_ ?_; rotate_left 1)
      · repeat first | refine lwp_seq fun K hK => ?_ | (with_reducible refine gA ?_; apply_assumption -exfalso -symm) | refine Stp.h ?_ | refine gF rfl ?_ | refine gG rfl ?_ | refine gM hC rfl sd ?_
        refine lwp_condS hC rfl sd ?_ ?_ <;> intro hb
        · simp at hb
        · clear hb
          repeat first | refine lwp_seq fun K hK => ?_ | (with_reducible refine gA ?_; apply_assumption -exfalso -symm) | refine Stp.h ?_ | refine gF rfl ?_ | refine gG rfl ?_ | refine gM hC rfl sd ?_
          (refine lwp_region hC ⟨[], [], [(1, Jobs_i l [(0, some 2), (1, some 3)]), (2, { f := 62, gl := [(0, 2)], hin := jobIn l ++ [(2, kdP)], args := [.sl 0 l.length], hout := [(3, .row 9 ([] : List ByteArray).length 1 (strC []))], ret := .tup [.sl 3 ([] : List ByteArray).length, i64 e], σ := [(0, some 4), (1, some 5), (2, some 1)] })]⟩ (told1 _ (by rw [hP]; exact (calls_cons (Jobs_s _ _ b1 b2) (calls_cons (HC.out) calls_nil)))) rfl ?_ ?_; rotate_left 1)
          · repeat first | refine lwp_seq fun K hK => ?_ | (with_reducible refine gA ?_; apply_assumption -exfalso -symm) | refine Stp.h ?_ | refine gF rfl ?_ | refine gG rfl ?_ | refine gM hC rfl sd ?_
            (refine lwp_region hC ⟨[], [], [(1, { f := 64, hin := jobIn l, args := [.sl 0 l.length], hout := [], ret := i64 e, σ := [(0, some 2), (1, some 3)] })]⟩ (told1 _ (by rw [hP]; exact (calls_cons (HR.out) calls_nil))) rfl ?_ ?_; rotate_left 1)
            · repeat first | refine lwp_seq fun K hK => ?_ | (with_reducible refine gA ?_; apply_assumption -exfalso -symm) | refine Stp.h ?_ | refine gF rfl ?_ | refine gG rfl ?_ | refine gM hC rfl sd ?_
              refine lwp_condS hC rfl sd ?_ ?_ <;> intro hb
              · exact absurd hb hz
              · clear hb
                repeat first | refine lwp_seq fun K hK => ?_ | (with_reducible refine gA ?_; apply_assumption -exfalso -symm) | refine Stp.h ?_ | refine gF rfl ?_ | refine gG rfl ?_ | refine gM hC rfl sd ?_
                (refine lwp_region hC ⟨[(3, { b := some true }), (8, { b := some true, g := some true })], [], [(2, SameW_i [] [(0, some 6), (1, none)]), (9, Awake_i)]⟩ (told1 _ (by rw [hP]; exact (calls_cons (HSM.out) (calls_cons (Awake_s) calls_nil)))) rfl ?_ ?_; rotate_left 1)
                · repeat first | refine lwp_seq fun K hK => ?_ | (with_reducible refine gA ?_; apply_assumption -exfalso -symm) | refine Stp.h ?_ | refine gF rfl ?_ | refine gG rfl ?_ | refine gM hC rfl sd ?_
                  (refine end_intro (by first | exact .inr rfl | exact .inl rfl) [] rfl ?_)
                  exact ⟨rfl, trivial⟩
                · exact sd
            · exact sd
          · exact sd
      · exact sd
  · have hs : shJ l = false := by cases e : shJ l with
      | false => rfl
      | true => exact absurd e hs
    have hsh := ShJ_s l [(0, some 2), (1, some 3)] hl hln
    unfold ShJ_i at hsh
    rw [hs] at hsh
    have HSH := Lib.hid hsh
    clear hs hsh
    unfold LawCh_i jobLaw Inst.ok; dsimp only; refine spec_of_body (tys := tys) 4 Tryz.func10 (by kernel_rfl) rfl tys_ok rfl (Nat.le_of_ble_eq_true rfl) (fun g i h => by simp only [List.mem_cons, List.not_mem_nil, or_false, Prod.mk.injEq] at h; omega) fun F hP hm hC hrd => ?_; conv => whnf
    repeat first | refine lwp_seq fun K hK => ?_ | (with_reducible refine gA ?_; apply_assumption -exfalso -symm) | refine Stp.h ?_ | refine gF rfl ?_ | refine gG rfl ?_ | refine gM hC rfl sd ?_
    (refine lwp_region hC ⟨[], [], [(1, { f := 61, hin := jobIn l, args := [.sl 0 l.length], hout := [], ret := bl false, σ := [(0, some 2), (1, some 3)] })]⟩ (told1 _ (by rw [hP]; exact (calls_cons (HSH.out) calls_nil))) rfl ?_ ?_; rotate_left 1)
    · repeat first | refine lwp_seq fun K hK => ?_ | (with_reducible refine gA ?_; apply_assumption -exfalso -symm) | refine Stp.h ?_ | refine gF rfl ?_ | refine gG rfl ?_ | refine gM hC rfl sd ?_
      refine lwp_condS hC rfl sd ?_ ?_ <;> intro hb
      · clear hb
        repeat first | refine lwp_seq fun K hK => ?_ | (with_reducible refine gA ?_; apply_assumption -exfalso -symm) | refine Stp.h ?_ | refine gF rfl ?_ | refine gG rfl ?_ | refine gM hC rfl sd ?_
        (refine lwp_region hC ⟨[], [], [(0, Awake_i)]⟩ (told1 _ (by rw [hP]; exact (calls_cons (Awake_s) calls_nil))) rfl ?_ ?_; rotate_left 1)
        · repeat first | refine lwp_seq fun K hK => ?_ | (with_reducible refine gA ?_; apply_assumption -exfalso -symm) | refine Stp.h ?_ | refine gF rfl ?_ | refine gG rfl ?_ | refine gM hC rfl sd ?_
          (refine end_intro (by first | exact .inr rfl | exact .inl rfl) [] rfl ?_)
          exact ⟨rfl, trivial⟩
        · exact sd
      · simp at hb
    · exact sd

end Go.Proofs.YtccddhoeampdjaaGreatDoor
