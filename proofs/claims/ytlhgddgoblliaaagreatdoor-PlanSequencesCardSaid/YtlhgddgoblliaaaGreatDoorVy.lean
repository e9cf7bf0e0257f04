/- PlanSequences: the law as a run. -/
import Derived.Test.YtlhgddgoblliaaaGreatDoorVx
import Derived.Test.YtlhgddgoblliaaaGreatDoorPx
set_option linter.unusedVariables false
set_option linter.unusedSimpArgs false
namespace Go.Proofs.YtlhgddgoblliaaaGreatDoor
open Go.RowKit Go.Sym

def SameQ_i (l : List Int) (σ : Ren) : Inst := { f := 21, hin := [(0, .ro l.length 1 (.ints .i64 l)), (1, .ro l.length 1 (.ints .i64 l))], args := [.sl 0 l.length, .sl 1 l.length], hout := [], ret := bl true, σ := σ }
set_option maxRecDepth 20000 in
theorem SameQ_s (l : List Int) (σ : Ren) (hl : l.length ≤ 1000000) : (SameQ_i l σ).ok Tryz.prog := by
  unfold SameQ_i Inst.ok; dsimp only; refine spec_of_body (tys := tys) 2 Tryz.func21 (by kernel_rfl) rfl tys_ok rfl (Nat.le_of_ble_eq_true rfl) (fun _ _ h => (by cases h)) fun F hP hm hC hrd => ?_; conv => whnf
  repeat first | refine lwp_seq fun K hK => ?_ | (with_reducible refine gA ?_; apply_assumption -exfalso -symm) | refine Stp.h ?_ | refine gF rfl ?_ | refine gG rfl ?_ | refine gM hC rfl sd ?_
  refine lwp_condS hC rfl sd ?_ ?_ <;> intro hb
  · exact absurd rfl hb
  · clear hb
    repeat first | refine lwp_seq fun K hK => ?_ | (with_reducible refine gA ?_; apply_assumption -exfalso -symm) | refine Stp.h ?_ | refine gF rfl ?_ | refine gG rfl ?_ | refine gM hC rfl sd ?_
    refine lwp_loop (fun k : Nat => ⟨[(5, i64 k), (0, .sl 0 l.length), (1, .sl 1 l.length)], [(0, .ro l.length 1 (.ints .i64 l)), (1, .ro l.length 1 (.ints .i64 l))], 2⟩) (fun k => k ≤ l.length) (fun k => l.length - k) 0 ⟨?_, sub_intro hm [(0, some 0), (1, some 1)] rfl ?_⟩ ?_
    · exact Nat.zero_le _
    · exact sd
    · rintro k hk
      have hkk : ((k : Int)).toNat = k := Int.toNat_natCast k
      repeat first | refine lwp_seq fun K hK => ?_ | (with_reducible refine gA ?_; apply_assumption -exfalso -symm) | refine Stp.h ?_ | refine gF rfl ?_ | refine gG rfl ?_ | refine gM hC rfl sd ?_
      refine lwp_condS hC rfl sd ?_ ?_ <;> intro hb
      · have hk2 : k < l.length := by omega
        repeat first | refine lwp_seq fun K hK => ?_ | (with_reducible refine gA ?_; apply_assumption -exfalso -symm) | refine Stp.h ?_ | refine gF rfl ?_ | refine gG rfl ?_ | refine gM hC rfl ⟨⟩ ?_
        (refine lwp_drawn hC (by rw [hP]; exact mixed) ⟨[], [], []⟩ (told0 _ _) [0, 0, 3, 7, 0, 0, 48, 112, 255] 8 rfl ?_ ?_; rotate_left 1)
        · repeat first | refine lwp_seq fun K hK => ?_ | (with_reducible refine gA ?_; apply_assumption -exfalso -symm) | refine Stp.h ?_ | refine gF rfl ?_ | refine gG rfl ?_ | refine gM hC rfl ⟨⟩ ?_
          refine lwp_condS hC rfl sd ?_ ?_ <;> intro hb
          · simp at hb
          · repeat first | refine lwp_seq fun K hK => ?_ | (with_reducible refine gA ?_; apply_assumption -exfalso -symm) | refine Stp.h ?_ | refine gF rfl ?_ | refine gG rfl ?_ | refine gM hC rfl sd ?_
            refine gA ⟨k + 1, ?_, ?_, sub_intro hm [(0, some 0), (1, some 1)] rfl ?_⟩
            · omega
            · omega
            · exact sd
        · exact sd
      · repeat first | refine lwp_seq fun K hK => ?_ | (with_reducible refine gA ?_; apply_assumption -exfalso -symm) | refine Stp.h ?_ | refine gF rfl ?_ | refine gG rfl ?_ | refine gM hC rfl sd ?_
        (refine end_intro (by first | exact .inr rfl | exact .inl rfl) [] rfl ?_)
        exact ⟨rfl, trivial⟩

theorem shJ_ok {l : List Jb} (h : shJ l = true) : l.length ≤ 1000 ∧ (∀ k, lnJ l k ≤ 1000) ∧ Szs l := by
  unfold shJ at h
  rw [Bool.and_eq_true, Bool.or_eq_true, List.all_eq_true] at h
  obtain ⟨h1, h2⟩ := h
  have h2 : (l.length : Int) ≤ 4 ∨ (l.length : Int) = 9 := h2.imp of_decide_eq_true of_decide_eq_true
  have hat : ∀ k, k < l.length → okJ (l.getD k jbD) = true := fun k hk => by
    rw [List.getD_eq_getElem?_getD, List.getElem?_eq_getElem hk]
    exact h1 _ (List.getElem_mem hk)
  have hno : ∀ k, ¬ k < l.length → l.getD k jbD = jbD := fun k hk => by
    rw [List.getD_eq_getElem?_getD, List.getElem?_eq_none (by omega)]; rfl
  refine ⟨by omega, fun k => ?_, ⟨fun k => ?_⟩⟩
  · by_cases hk : k < l.length
    · have := hat k hk
      unfold okJ at this
      simp only [Bool.and_eq_true, decide_eq_true_eq] at this
      show (l.getD k jbD).af.length ≤ 1000
      omega
    · show (l.getD k jbD).af.length ≤ 1000
      rw [hno k hk]; exact Nat.zero_le _
  · by_cases hk : k < l.length
    · have := hat k hk
      unfold okJ at this
      simp only [Bool.and_eq_true, decide_eq_true_eq] at this
      omega
    · rw [hno k hk]; exact Nat.zero_le _
theorem jobsE_in {l : List Jb} (h : jobsE l = 0) : l.length ≤ 8 ∧ jbsE l = 0 := by
  unfold jobsE at h
  split at h
  · cases h
  · have h4 := (firstS_cons _ _).1 h
    exact ⟨by omega, h4.1⟩
theorem firstS_four (a b c d : Int) : firstS [a, b, c, d] = if firstS [a, b, c] = 0 then d else firstS [a, b, c] := by
  simp only [firstS]
  split <;> (try split) <;> (try split) <;> (try split) <;> simp_all
/-- The check of a sequence: what both say. -/
theorem cs_same {l : List Jb} {H : List Int} {lo hi : Int} {D : List Int} : csR l H lo hi D = if sqE l H lo hi = 0 then (if rcS l H hi D = 0 then grS D else 0, rcS l H hi D) else (0, sqE l H lo hi) := by
  unfold csR
  have e : csE l H lo hi D = if sqE l H lo hi = 0 then whenS (decide ((D.length : Int) ≠ l.length)) 2 else sqE l H lo hi := firstS_four _ _ _ _
  rw [e]
  by_cases ho : sqE l H lo hi = 0
  · rw [if_pos ho, if_pos ho]
    by_cases hd : (D.length : Int) = l.length
    · rw [show rcS l H hi D = csX l H hi D from if_neg (fun h => h hd), decide_eq_false (fun h => h hd), if_pos (show whenS false 2 = 0 from rfl)]
      by_cases hx : csX l H hi D = 0
      · rw [if_pos hx, if_pos hx, hx]
      · rw [if_neg hx, if_neg hx]
    · rw [show rcS l H hi D = 2 from if_pos hd, decide_eq_true hd, if_neg (show ¬ whenS true 2 = 0 by decide), if_neg (by decide)]
      rfl
  · rw [if_neg ho, if_neg ho, if_neg ho]
/-- The best one: what both say. -/
theorem sq_same {l : List Jb} {H : List Int} {lo hi : Int} (ho : sqE l H lo hi = 0) (hH : H.length ≤ 1000) (hl : l.length ≤ 1000) : ∃ s n e, sqR l H lo hi = (s, n, e) ∧ rqR l H hi = (s, e) ∧ grS s = n ∧ s.length ≤ 1000 := by
  have h1 := ((firstS_cons _ _).1 ho).1
  have hk := knw_of h1
  have hn := (jobsE_in h1).2
  unfold sqR rqR
  rw [if_pos ho]
  cases e : sqF l H hi with
  | none =>
    rw [sq_none hk hn e]
    exact ⟨[], 0, 18, rfl, rfl, rfl, by simp⟩
  | some p =>
    obtain ⟨x, d⟩ := p
    obtain ⟨h3, h4, h5, _⟩ := sq_some hk hn e
    rw [h3]
    exact ⟨x, d, 0, rfl, rfl, h4, by omega⟩

def seqLaw (l : List Jb) (H D : List Int) : List (Nat × Chunk) := [(0, pwC), (1, kdC), (2, jbCh l 3), (3, fmCh l), (4, .ro H.length 1 (.ints .i64 H)), (5, .ro D.length 1 (.ints .i64 D))]
def LawSq_i (l : List Jb) (H D : List Int) (lo hi : Int) : Inst := { f := 3, gl := lawG, hin := seqLaw l H D, args := [.sl 2 l.length, .agg [.sl 4 H.length, i64 lo, i64 hi, .sl 5 D.length]], hout := [], ret := bl true, σ := [] }
def bndQ (l : List Jb) (H D : List Int) : Prop := shJ l = true ∧ ((H.length : Int) ≤ 5 ∨ (H.length : Int) = 13) ∧ (D.length : Int) ≤ 9
set_option maxRecDepth 20000 in
set_option maxHeartbeats 8000000 in
theorem LawSq_s (l : List Jb) (H D : List Int) (lo hi : Int) (hl : l.length ≤ 9223372036854775807) (hH : H.length ≤ 9223372036854775807) (hD : D.length ≤ 9223372036854775807) (hln : ∀ k, lnJ l k ≤ 9223372036854775807) : (LawSq_i l H D lo hi).ok Tryz.prog := by
  have hsh := ShJ_s l [(0, some 2), (1, some 3)] hl hln
  unfold ShJ_i at hsh
  obtain ⟨sh, hse⟩ : ∃ sh, shJ l = sh := ⟨_, rfl⟩
  rw [hse] at hsh
  have HSH := Lib.hid hsh
  clear hsh
  by_cases hall : bndQ l H D
  · obtain ⟨a1, a2, a3⟩ := hall
    rw [hse] at a1
    subst a1
    obtain ⟨b1, b2, b3⟩ := shJ_ok hse
    have b4 : H.length ≤ 1000 := by omega
    have b5 : D.length ≤ 1000 := by omega
    have hcs := CSq_s l H lo hi D [(0, some 7), (1, some 8), (2, some 9), (3, some 10), (4, some 1)] b1 b2 b4 b5
    have hsq := Sq_s l H lo hi [(0, some 11), (1, some 12), (2, some 13), (3, some 1)] b1 b2 b4
    have hrj := RCJ_s l [(0, some 2), (1, some 3)] b1 b2 b3
    unfold CSq_i at hcs
    unfold Sq_i at hsq
    unfold RCJ_i at hrj
    rw [cs_same] at hcs
    have hrh := RHts_s H [(0, some 4)] (by omega)
    have HRH := Lib.hid hrh
    clear hrh
    by_cases ho : sqE l H lo hi = 0
    · have hk := knw_of ((firstS_cons _ _).1 ho).1
      have hpj := CJb_s l [(0, some 17), (1, some 18), (2, some 1)] b1 b2
      unfold CJb_i at hpj
      obtain ⟨s, n, e, q1, q2, q3, q4⟩ := sq_same ho b4 b1
      have hrs := RSd_s l H lo hi [(0, some 2), (1, some 3), (2, some 4)] hk b1 b2 b4
      have hrc := RCs_s l H lo hi D [(0, some 2), (1, some 3), (2, some 4), (3, some 5)] hk b1 b2 b4 b5
      unfold RSd_i at hrs
      unfold RCs_i at hrc
      rw [if_pos ho] at hcs
      rw [q1] at hsq
      rw [q2] at hrs
      have hgs := RGr_s s [(0, some 16)] (by omega)
      have hgd := RGr_s D [(0, some 5)] (by omega)
      unfold RGr_i at hgs hgd
      rw [q3] at hgs
      have hsm := SameQ_s s [(0, some 14), (1, some 16)] (by omega)
      obtain ⟨c, hc⟩ : ∃ c, rcS l H hi D = c := ⟨_, rfl⟩
      obtain ⟨g, hg⟩ : ∃ g, grS D = g := ⟨_, rfl⟩
      rw [hc, hg] at hcs
      rw [hc] at hrc
      rw [hg] at hgd
      have ho2 : firstS [jobsE l, heatE H, bandS lo hi] = 0 := ho
      obtain ⟨je, hje⟩ : ∃ je, jobsE l = je := ⟨_, rfl⟩
      rw [hje] at hrj hpj ho2
      have hfi := First_s [je, heatE H, bandS lo hi] [(0, some 15)] (by simp)
      unfold First_i at hfi
      rw [ho2] at hfi
      have HCS := Lib.hid hcs
      have HSQ := Lib.hid hsq
      have HRS := Lib.hid hrs
      have HRC := Lib.hid hrc
      have HGS := Lib.hid hgs
      have HGD := Lib.hid hgd
      have HSM := Lib.hid hsm
      have HRJ5 := Lib.hid hrj
      have HPJ := Lib.hid hpj
      have HFI := Lib.hid hfi
      clear hcs hsq hrs hrc hgs hgd hsm hpj hfi hrj ho ho2 hk q1 q2 q3 hc hg hje hse
      unfold LawSq_i seqLaw Inst.ok; dsimp only; refine spec_of_body (tys := tys) 6 Tryz.func3 (by kernel_rfl) rfl tys_ok rfl (Nat.le_of_ble_eq_true rfl) (fun g i h => by simp only [List.mem_cons, List.not_mem_nil, or_false, Prod.mk.injEq] at h; omega) fun F hP hm hC hrd => ?_; conv => whnf
      repeat first | refine lwp_seq fun K hK => ?_ | (with_reducible refine gA ?_; apply_assumption -exfalso -symm) | refine Stp.h ?_ | refine gF rfl ?_ | refine gG rfl ?_ | refine gM hC rfl sd ?_
      (refine lwp_region hC ⟨[], [], [(1, { f := 7, hin := jobIn l, args := [.sl 0 l.length], hout := [], ret := bl true, σ := [(0, some 2), (1, some 3)] })]⟩ (told1 _ (by rw [hP]; exact (calls_cons (HSH.out) calls_nil))) rfl ?_ ?_; rotate_left 1)
      · repeat first | refine lwp_seq fun K hK => ?_ | (with_reducible refine gA ?_; apply_assumption -exfalso -symm) | refine Stp.h ?_ | refine gF rfl ?_ | refine gG rfl ?_ | refine gM hC rfl sd ?_
        refine lwp_condS hC rfl sd ?_ ?_ <;> intro hb
        · simp at hb
          omega
        · clear hb
          repeat first | refine lwp_seq fun K hK => ?_ | (with_reducible refine gA ?_; apply_assumption -exfalso -symm) | refine Stp.h ?_ | refine gF rfl ?_ | refine gG rfl ?_ | refine gM hC rfl sd ?_
          (refine lwp_drawn hC (by rw [hP]; exact mixed) ⟨[], [], [(1, Jobs_i l [(0, some 2), (1, some 3)]), (4, LInts_i H [(0, some 4)]), (9, LInts_i D [(0, some 5)]), (10, { f := 9, gl := [(0, 4)], hin := csIn l H D, args := [.sl 0 l.length, .sl 2 H.length, .agg [i64 lo, i64 hi], .sl 3 D.length], hout := [], ret := .tup [i64 (if c = 0 then g else 0), i64 c], σ := [(0, some 7), (1, some 8), (2, some 9), (3, some 10), (4, some 1)] })]⟩ (told1 _ (by rw [hP]; exact (calls_cons (Jobs_s _ _ b1 b2) (calls_cons (LInts_s _ _ (by omega)) (calls_cons (LInts_s _ _ (by omega)) (calls_cons (HCS.out) calls_nil)))))) [0, 1, 0, 4, 15, 0, 32, 0, 128, 415, 1023, 2047, 4095, 4095, 8191, 32767] 15 rfl ?_ ?_; rotate_left 1)
          · repeat first | refine lwp_seq fun K hK => ?_ | (with_reducible refine gA ?_; apply_assumption -exfalso -symm) | refine Stp.h ?_ | refine gF rfl ?_ | refine gG rfl ?_ | refine gM hC rfl sd ?_
            (refine lwp_drawn hC (by rw [hP]; exact mixed) ⟨[], [], [(1, Jobs_i l [(0, some 2), (1, some 3)]), (4, LInts_i H [(0, some 4)]), (7, { f := 12, gl := [(0, 3)], hin := jhIn l H, args := [.sl 0 l.length, .sl 2 H.length, .agg [i64 lo, i64 hi]], hout := [(4, .row 3 s.length 1 (.ints .i64 s))], ret := .tup [.sl 4 s.length, i64 n, i64 e], σ := [(0, some 11), (1, some 12), (2, some 13), (3, some 1)] })]⟩ (told1 _ (by rw [hP]; exact (calls_cons (Jobs_s _ _ b1 b2) (calls_cons (LInts_s _ _ (by omega)) (calls_cons (HSQ.out) calls_nil))))) [0, 1, 0, 4, 15, 0, 32, 127, 255, 511, 511, 511, 1023, 6143, 16383] 14 rfl ?_ ?_; rotate_left 1)
            · repeat first | refine lwp_seq fun K hK => ?_ | (with_reducible refine gA ?_; apply_assumption -exfalso -symm) | refine Stp.h ?_ | refine gF rfl ?_ | refine gG rfl ?_ | refine gM hC rfl sd ?_
              (refine lwp_drawn hC (by rw [hP]; exact mixed) ⟨[], [], [(1, { f := 14, hin := jobIn l, args := [.sl 0 l.length], hout := [], ret := i64 je, σ := [(0, some 2), (1, some 3)] }), (4, RHts_i H [(0, some 4)]), (7, RBand_i lo hi), (9, { f := 13, hin := [(0, .ro [je, heatE H, bandS lo hi].length 1 (.ints .i64 [je, heatE H, bandS lo hi]))], args := [.sl 0 [je, heatE H, bandS lo hi].length], hout := [], ret := i64 0, σ := [(0, some 15)] })]⟩ (told1 _ (by rw [hP]; exact (calls_cons (HRJ5.out) (calls_cons (HRH.out) (calls_cons (RBand_s _ _) (calls_cons (HFI.out) calls_nil)))))) [0, 1, 0, 4, 15, 0, 32, 127, 255, 511, 1023] 7 rfl ?_ ?_; rotate_left 1)
              · repeat first | refine lwp_seq fun K hK => ?_ | (with_reducible refine gA ?_; apply_assumption -exfalso -symm) | refine Stp.h ?_ | refine gF rfl ?_ | refine gG rfl ?_ | refine gM hC rfl sd ?_
                refine lwp_condS hC rfl sd ?_ ?_ <;> intro hb
                · clear hb
                  repeat first | refine lwp_seq fun K hK => ?_ | (with_reducible refine gA ?_; apply_assumption -exfalso -symm) | refine Stp.h ?_ | refine gF rfl ?_ | refine gG rfl ?_ | refine gM hC rfl sd ?_
                  (refine lwp_region hC ⟨[], [], [(5, { f := 17, hin := rqIn l H, args := [.sl 0 l.length, .sl 2 H.length, .agg [i64 lo, i64 hi]], hout := [(3, .row 3 s.length 1 (.ints .i64 s))], ret := .tup [.sl 3 s.length, i64 e], σ := [(0, some 2), (1, some 3), (2, some 4)] })]⟩ (told1 _ (by rw [hP]; exact (calls_cons (HRS.out) calls_nil))) rfl ?_ ?_; rotate_left 1)
                  · repeat first | refine lwp_seq fun K hK => ?_ | (with_reducible refine gA ?_; apply_assumption -exfalso -symm) | refine Stp.h ?_ | refine gF rfl ?_ | refine gG rfl ?_ | refine gM hC rfl sd ?_
                    (refine lwp_region hC ⟨[], [], [(7, { f := 18, hin := rcIn l H D, args := [.sl 0 l.length, .sl 2 H.length, .agg [i64 lo, i64 hi], .sl 3 D.length], hout := [], ret := i64 c, σ := [(0, some 2), (1, some 3), (2, some 4), (3, some 5)] })]⟩ (told1 _ (by rw [hP]; exact (calls_cons (HRC.out) calls_nil))) rfl ?_ ?_; rotate_left 1)
                    · repeat first | refine lwp_seq fun K hK => ?_ | (with_reducible refine gA ?_; apply_assumption -exfalso -symm) | refine Stp.h ?_ | refine gF rfl ?_ | refine gG rfl ?_ | refine gM hC rfl sd ?_
                      refine lwp_condS hC rfl sd ?_ ?_ <;> intro hb
                      · subst hb
                        rw [if_pos rfl]
                        repeat first | refine lwp_seq fun K hK => ?_ | (with_reducible refine gA ?_; apply_assumption -exfalso -symm) | refine Stp.h ?_ | refine gF rfl ?_ | refine gG rfl ?_ | refine gM hC rfl sd ?_
                        (refine lwp_region hC ⟨[], [], [(2, { f := 19, hin := [(0, .ro D.length 1 (.ints .i64 D))], args := [.sl 0 D.length], hout := [], ret := i64 g, σ := [(0, some 5)] })]⟩ (told1 _ (by rw [hP]; exact (calls_cons (HGD.out) calls_nil))) rfl ?_ ?_; rotate_left 1)
                        · repeat first | refine lwp_seq fun K hK => ?_ | (with_reducible refine gA ?_; apply_assumption -exfalso -symm) | refine Stp.h ?_ | refine gF rfl ?_ | refine gG rfl ?_ | refine gM hC rfl sd ?_
                          (refine lwp_region hC ⟨[(5, { b := some true }), (9, { b := some true, g := some true }), (14, { b := some true, g := some true }), (25, { b := some true, g := some true }), (30, { b := some true, g := some true })], [], [(1, Jobs_i l [(0, some 2), (1, some 3)]), (2, { f := 20, gl := [(0, 2)], hin := jobIn l ++ [(2, kdP)], args := [.sl 0 l.length], hout := [], ret := i64 je, σ := [(0, some 17), (1, some 18), (2, some 1)] }), (4, { f := 14, hin := jobIn l, args := [.sl 0 l.length], hout := [], ret := i64 je, σ := [(0, some 2), (1, some 3)] }), (19, SameQ_i s [(0, some 14), (1, some 16)]), (24, { f := 19, hin := [(0, .ro s.length 1 (.ints .i64 s))], args := [.sl 0 s.length], hout := [], ret := i64 n, σ := [(0, some 16)] }), (33, Awake_i)]⟩ (told1 _ (by rw [hP]; exact (calls_cons (Jobs_s _ _ b1 b2) (calls_cons (HPJ.out) (calls_cons (HRJ5.out) (calls_cons (HSM.out) (calls_cons (HGS.out) (calls_cons (Awake_s) calls_nil)))))))) rfl ?_ ?_; rotate_left 1)
                          · repeat first | refine lwp_seq fun K hK => ?_ | (with_reducible refine gA ?_; apply_assumption -exfalso -symm) | refine Stp.h ?_ | refine gF rfl ?_ | refine gG rfl ?_ | refine gM hC rfl sd ?_
                            (refine end_intro (by first | exact .inr rfl | exact .inl rfl) [] rfl ?_)
                            exact ⟨rfl, trivial⟩
                          · exact sd
                        · exact sd
                      · rw [if_neg hb]
                        clear hb
                        repeat first | refine lwp_seq fun K hK => ?_ | (with_reducible refine gA ?_; apply_assumption -exfalso -symm) | refine Stp.h ?_ | refine gF rfl ?_ | refine gG rfl ?_ | refine gM hC rfl sd ?_
                        (refine lwp_region hC ⟨[(5, { b := some true }), (9, { b := some true, g := some true }), (14, { b := some true, g := some true }), (25, { b := some true, g := some true }), (30, { b := some true, g := some true })], [], [(1, Jobs_i l [(0, some 2), (1, some 3)]), (2, { f := 20, gl := [(0, 2)], hin := jobIn l ++ [(2, kdP)], args := [.sl 0 l.length], hout := [], ret := i64 je, σ := [(0, some 17), (1, some 18), (2, some 1)] }), (4, { f := 14, hin := jobIn l, args := [.sl 0 l.length], hout := [], ret := i64 je, σ := [(0, some 2), (1, some 3)] }), (19, SameQ_i s [(0, some 14), (1, some 16)]), (24, { f := 19, hin := [(0, .ro s.length 1 (.ints .i64 s))], args := [.sl 0 s.length], hout := [], ret := i64 n, σ := [(0, some 16)] }), (33, Awake_i)]⟩ (told1 _ (by rw [hP]; exact (calls_cons (Jobs_s _ _ b1 b2) (calls_cons (HPJ.out) (calls_cons (HRJ5.out) (calls_cons (HSM.out) (calls_cons (HGS.out) (calls_cons (Awake_s) calls_nil)))))))) rfl ?_ ?_; rotate_left 1)
                        · repeat first | refine lwp_seq fun K hK => ?_ | (with_reducible refine gA ?_; apply_assumption -exfalso -symm) | refine Stp.h ?_ | refine gF rfl ?_ | refine gG rfl ?_ | refine gM hC rfl sd ?_
                          (refine end_intro (by first | exact .inr rfl | exact .inl rfl) [] rfl ?_)
                          exact ⟨rfl, trivial⟩
                        · exact sd
                    · exact sd
                  · exact sd
                · exact absurd rfl hb
              · exact sd
            · exact sd
          · exact sd
      · exact sd
    · have hpj := CJb_s l [(0, some 16), (1, some 17), (2, some 1)] b1 b2
      unfold CJb_i at hpj
      have e2 : sqR l H lo hi = ([], 0, sqE l H lo hi) := if_neg ho
      rw [if_neg ho] at hcs
      rw [e2] at hsq
      have hsm := SameQ_s [] [(0, some 14), (1, none)] (by decide)
      have hgs := RGr_s [] [(0, none)] (by decide)
      obtain ⟨o, hoe⟩ : ∃ o, sqE l H lo hi = o := ⟨_, rfl⟩
      have ho2 : firstS [jobsE l, heatE H, bandS lo hi] = o := hoe
      rw [hoe] at hcs hsq ho
      obtain ⟨je, hje⟩ : ∃ je, jobsE l = je := ⟨_, rfl⟩
      rw [hje] at hrj hpj ho2
      have hfi := First_s [je, heatE H, bandS lo hi] [(0, some 15)] (by simp)
      unfold First_i at hfi
      rw [ho2] at hfi
      have HCS := Lib.hid hcs
      have HSQ := Lib.hid hsq
      have HGS := Lib.hid hgs
      have HSM := Lib.hid hsm
      have HRJ5 := Lib.hid hrj
      have HPJ := Lib.hid hpj
      have HFI := Lib.hid hfi
      clear hcs hsq hgs hsm hpj hfi hrj ho2 e2 hje hse hoe
      unfold LawSq_i seqLaw Inst.ok; dsimp only; refine spec_of_body (tys := tys) 6 Tryz.func3 (by kernel_rfl) rfl tys_ok rfl (Nat.le_of_ble_eq_true rfl) (fun g i h => by simp only [List.mem_cons, List.not_mem_nil, or_false, Prod.mk.injEq] at h; omega) fun F hP hm hC hrd => ?_; conv => whnf
      repeat first | refine lwp_seq fun K hK => ?_ | (with_reducible refine gA ?_; apply_assumption -exfalso -symm) | refine Stp.h ?_ | refine gF rfl ?_ | refine gG rfl ?_ | refine gM hC rfl sd ?_
      (refine lwp_region hC ⟨[], [], [(1, { f := 7, hin := jobIn l, args := [.sl 0 l.length], hout := [], ret := bl true, σ := [(0, some 2), (1, some 3)] })]⟩ (told1 _ (by rw [hP]; exact (calls_cons (HSH.out) calls_nil))) rfl ?_ ?_; rotate_left 1)
      · repeat first | refine lwp_seq fun K hK => ?_ | (with_reducible refine gA ?_; apply_assumption -exfalso -symm) | refine Stp.h ?_ | refine gF rfl ?_ | refine gG rfl ?_ | refine gM hC rfl sd ?_
        refine lwp_condS hC rfl sd ?_ ?_ <;> intro hb
        · simp at hb
          omega
        · clear hb
          repeat first | refine lwp_seq fun K hK => ?_ | (with_reducible refine gA ?_; apply_assumption -exfalso -symm) | refine Stp.h ?_ | refine gF rfl ?_ | refine gG rfl ?_ | refine gM hC rfl sd ?_
          (refine lwp_drawn hC (by rw [hP]; exact mixed) ⟨[], [], [(1, Jobs_i l [(0, some 2), (1, some 3)]), (4, LInts_i H [(0, some 4)]), (9, LInts_i D [(0, some 5)]), (10, { f := 9, gl := [(0, 4)], hin := csIn l H D, args := [.sl 0 l.length, .sl 2 H.length, .agg [i64 lo, i64 hi], .sl 3 D.length], hout := [], ret := .tup [i64 0, i64 o], σ := [(0, some 7), (1, some 8), (2, some 9), (3, some 10), (4, some 1)] })]⟩ (told1 _ (by rw [hP]; exact (calls_cons (Jobs_s _ _ b1 b2) (calls_cons (LInts_s _ _ (by omega)) (calls_cons (LInts_s _ _ (by omega)) (calls_cons (HCS.out) calls_nil)))))) [0, 1, 0, 4, 15, 0, 32, 0, 128, 415, 1023, 2047, 4095, 4095, 8191, 32767] 15 rfl ?_ ?_; rotate_left 1)
          · repeat first | refine lwp_seq fun K hK => ?_ | (with_reducible refine gA ?_; apply_assumption -exfalso -symm) | refine Stp.h ?_ | refine gF rfl ?_ | refine gG rfl ?_ | refine gM hC rfl sd ?_
            (refine lwp_drawn hC (by rw [hP]; exact mixed) ⟨[], [], [(1, Jobs_i l [(0, some 2), (1, some 3)]), (4, LInts_i H [(0, some 4)]), (7, { f := 12, gl := [(0, 3)], hin := jhIn l H, args := [.sl 0 l.length, .sl 2 H.length, .agg [i64 lo, i64 hi]], hout := [(4, .row 3 ([] : List Int).length 1 (.ints .i64 ([] : List Int)))], ret := .tup [.sl 4 ([] : List Int).length, i64 0, i64 o], σ := [(0, some 11), (1, some 12), (2, some 13), (3, some 1)] })]⟩ (told1 _ (by rw [hP]; exact (calls_cons (Jobs_s _ _ b1 b2) (calls_cons (LInts_s _ _ (by omega)) (calls_cons (HSQ.out) calls_nil))))) [0, 1, 0, 4, 15, 0, 32, 127, 255, 511, 511, 511, 1023, 6143, 16383] 14 rfl ?_ ?_; rotate_left 1)
            · repeat first | refine lwp_seq fun K hK => ?_ | (with_reducible refine gA ?_; apply_assumption -exfalso -symm) | refine Stp.h ?_ | refine gF rfl ?_ | refine gG rfl ?_ | refine gM hC rfl sd ?_
              (refine lwp_drawn hC (by rw [hP]; exact mixed) ⟨[], [], [(1, { f := 14, hin := jobIn l, args := [.sl 0 l.length], hout := [], ret := i64 je, σ := [(0, some 2), (1, some 3)] }), (4, RHts_i H [(0, some 4)]), (7, RBand_i lo hi), (9, { f := 13, hin := [(0, .ro [je, heatE H, bandS lo hi].length 1 (.ints .i64 [je, heatE H, bandS lo hi]))], args := [.sl 0 [je, heatE H, bandS lo hi].length], hout := [], ret := i64 o, σ := [(0, some 15)] })]⟩ (told1 _ (by rw [hP]; exact (calls_cons (HRJ5.out) (calls_cons (HRH.out) (calls_cons (RBand_s _ _) (calls_cons (HFI.out) calls_nil)))))) [0, 1, 0, 4, 15, 0, 32, 127, 255, 511, 1023] 7 rfl ?_ ?_; rotate_left 1)
              · repeat first | refine lwp_seq fun K hK => ?_ | (with_reducible refine gA ?_; apply_assumption -exfalso -symm) | refine Stp.h ?_ | refine gF rfl ?_ | refine gG rfl ?_ | refine gM hC rfl sd ?_
                refine lwp_condS hC rfl sd ?_ ?_ <;> intro hb
                · exact absurd hb ho
                · clear hb
                  repeat first | refine lwp_seq fun K hK => ?_ | (with_reducible refine gA ?_; apply_assumption -exfalso -symm) | refine Stp.h ?_ | refine gF rfl ?_ | refine gG rfl ?_ | refine gM hC rfl sd ?_
                  refine lwp_condS hC rfl sd ?_ ?_ <;> intro hb
                  · exact absurd hb ho
                  · clear hb
                    repeat first | refine lwp_seq fun K hK => ?_ | (with_reducible refine gA ?_; apply_assumption -exfalso -symm) | refine Stp.h ?_ | refine gF rfl ?_ | refine gG rfl ?_ | refine gM hC rfl sd ?_
                    (refine lwp_region hC ⟨[(5, { b := some true }), (9, { b := some true, g := some true }), (14, { b := some true, g := some true }), (25, { b := some true, g := some true }), (30, { b := some true, g := some true })], [], [(1, Jobs_i l [(0, some 2), (1, some 3)]), (2, { f := 20, gl := [(0, 2)], hin := jobIn l ++ [(2, kdP)], args := [.sl 0 l.length], hout := [], ret := i64 je, σ := [(0, some 16), (1, some 17), (2, some 1)] }), (4, { f := 14, hin := jobIn l, args := [.sl 0 l.length], hout := [], ret := i64 je, σ := [(0, some 2), (1, some 3)] }), (19, SameQ_i [] [(0, some 14), (1, none)]), (24, RGr_i [] [(0, none)]), (33, Awake_i)]⟩ (told1 _ (by rw [hP]; exact (calls_cons (Jobs_s _ _ b1 b2) (calls_cons (HPJ.out) (calls_cons (HRJ5.out) (calls_cons (HSM.out) (calls_cons (HGS.out) (calls_cons (Awake_s) calls_nil)))))))) rfl ?_ ?_; rotate_left 1)
                    · repeat first | refine lwp_seq fun K hK => ?_ | (with_reducible refine gA ?_; apply_assumption -exfalso -symm) | refine Stp.h ?_ | refine gF rfl ?_ | refine gG rfl ?_ | refine gM hC rfl sd ?_
                      (refine end_intro (by first | exact .inr rfl | exact .inl rfl) [] rfl ?_)
                      exact ⟨rfl, trivial⟩
                    · exact sd
              · exact sd
            · exact sd
          · exact sd
      · exact sd
  · unfold LawSq_i seqLaw Inst.ok; dsimp only; refine spec_of_body (tys := tys) 6 Tryz.func3 (by kernel_rfl) rfl tys_ok rfl (Nat.le_of_ble_eq_true rfl) (fun g i h => by simp only [List.mem_cons, List.not_mem_nil, or_false, Prod.mk.injEq] at h; omega) fun F hP hm hC hrd => ?_; conv => whnf
    repeat first | refine lwp_seq fun K hK => ?_ | (with_reducible refine gA ?_; apply_assumption -exfalso -symm) | refine Stp.h ?_ | refine gF rfl ?_ | refine gG rfl ?_ | refine gM hC rfl sd ?_
    (refine lwp_region hC ⟨[], [], [(1, { f := 7, hin := jobIn l, args := [.sl 0 l.length], hout := [], ret := bl sh, σ := [(0, some 2), (1, some 3)] })]⟩ (told1 _ (by rw [hP]; exact (calls_cons (HSH.out) calls_nil))) rfl ?_ ?_; rotate_left 1)
    · repeat first | refine lwp_seq fun K hK => ?_ | (with_reducible refine gA ?_; apply_assumption -exfalso -symm) | refine Stp.h ?_ | refine gF rfl ?_ | refine gG rfl ?_ | refine gM hC rfl sd ?_
      refine lwp_condS hC rfl sd ?_ ?_ <;> intro hb
      · clear hb
        repeat first | refine lwp_seq fun K hK => ?_ | (with_reducible refine gA ?_; apply_assumption -exfalso -symm) | refine Stp.h ?_ | refine gF rfl ?_ | refine gG rfl ?_ | refine gM hC rfl sd ?_
        (refine lwp_region hC ⟨[], [], [(0, Awake_i)]⟩ (told1 _ (by rw [hP]; exact (calls_cons (Awake_s) calls_nil))) rfl ?_ ?_; rotate_left 1)
        · repeat first | refine lwp_seq fun K hK => ?_ | (with_reducible refine gA ?_; apply_assumption -exfalso -symm) | refine Stp.h ?_ | refine gF rfl ?_ | refine gG rfl ?_ | refine gM hC rfl sd ?_
          (refine end_intro (by first | exact .inr rfl | exact .inl rfl) [] rfl ?_)
          exact ⟨rfl, trivial⟩
        · exact sd
      · refine absurd ?_ hall
        cases sh
        · simp at hb
        · simp at hb
          exact ⟨hse, by omega, by omega⟩
    · exact sd

end Go.Proofs.YtlhgddgoblliaaaGreatDoor
