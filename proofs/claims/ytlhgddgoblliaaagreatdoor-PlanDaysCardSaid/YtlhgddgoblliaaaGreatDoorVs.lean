/- Chapter 9: the check of a sequence, the program's. -/
import Derived.Test.YtlhgddgoblliaaaGreatDoorVr
set_option linter.unusedVariables false
set_option linter.unusedSimpArgs false
namespace Go.Proofs.YtlhgddgoblliaaaGreatDoor
open Go.RowKit Go.Sym

def csE (l : List Jb) (H : List Int) (lo hi : Int) (D : List Int) : Int := firstS [jobsE l, heatE H, bandS lo hi, whenS (decide ((D.length : Int) ≠ l.length)) 2]
def csX (l : List Jb) (H : List Int) (hi : Int) (D : List Int) : Int := if D.any (dyB H.length) = true then 10 else firstS ((List.range l.length).map (ckS l H hi D))
def csR (l : List Jb) (H : List Int) (lo hi : Int) (D : List Int) : Int × Int := if csE l H lo hi D = 0 then (if csX l H hi D = 0 then (grS D, 0) else (0, csX l H hi D)) else (0, csE l H lo hi D)
def csIn (l : List Jb) (H D : List Int) : List (Nat × Chunk) := [(0, jbCh l 1), (1, fmCh l), (2, .ro H.length 1 (.ints .i64 H)), (3, .ro D.length 1 (.ints .i64 D)), (4, kdP)]
theorem any_at {α : Type} {p : α → Bool} {l : List α} {d : α} (h : l.any p = false) {i : Nat} (hi : i < l.length) : p (l.getD i d) = false := by
  rw [List.any_eq_false] at h
  rw [List.getD_eq_getElem?_getD, List.getElem?_eq_getElem hi]
  have := h l[i] (List.getElem_mem hi)
  simpa using this
def CSq_i (l : List Jb) (H : List Int) (lo hi : Int) (D : List Int) (σ : Ren) : Inst := { f := 9, gl := [(0, 4)], hin := csIn l H D, args := [.sl 0 l.length, .sl 2 H.length, .agg [i64 lo, i64 hi], .sl 3 D.length], hout := [], ret := .tup [i64 (csR l H lo hi D).1, i64 (csR l H lo hi D).2], σ := σ }
set_option maxRecDepth 20000 in
set_option maxHeartbeats 8000000 in
theorem CSq_s (l : List Jb) (H : List Int) (lo hi : Int) (D : List Int) (σ : Ren) (hl : l.length ≤ 1000) (hln : ∀ k, lnJ l k ≤ 1000) (hH : H.length ≤ 1000) (hD : D.length ≤ 1000) : (CSq_i l H lo hi D σ).ok Tryz.prog := by
  by_cases hz : csE l H lo hi D = 0
  · have h1 := (firstS_cons _ _).1 hz
    have h2 := (firstS_cons _ _).1 h1.2
    have h3 := (firstS_cons _ _).1 h2.2
    have z1 := h1.1
    have z2 := h2.1
    have z3 := h3.1
    have z4 := ((firstS_cons _ _).1 h3.2).1
    have hDl : D.length = l.length := by
      have := of_decide_eq_false ((whenS_zero (by decide)).1 z4)
      omega
    have hnm : jbsE l = 0 := by
      have h := z1
      unfold jobsE at h
      split at h
      · cases h
      · exact ((firstS_cons _ _).1 h).1
    have hpl := Plc_s l [(0, some 0), (1, some 1)] hl (fun k hk => jbs_names hnm k hk)
    have hcj := CJb_s l [(0, some 0), (1, some 1), (2, some 4)] hl hln
    have hhe := Heat_s H [(0, some 2)] (by omega)
    have hba := PBand_s lo hi
    have hwh := PWhen_s (decide ((D.length : Int) ≠ l.length)) 2
    unfold CJb_i at hcj
    unfold Heat_i at hhe
    unfold PBand_i at hba
    unfold PWhen_i at hwh
    rw [z1] at hcj
    rw [z2] at hhe
    rw [z3] at hba
    rw [z4] at hwh
    have HP := Lib.hid hpl
    have HJ := Lib.hid hcj
    have HH := Lib.hid hhe
    have HBA := Lib.hid hba
    have HW := Lib.hid hwh
    have er : csR l H lo hi D = if csX l H hi D = 0 then (grS D, 0) else (0, csX l H hi D) := if_pos hz
    unfold CSq_i
    obtain ⟨R, hR⟩ : ∃ R, csR l H lo hi D = R := ⟨_, rfl⟩
    rw [hR] at er ⊢
    have HER := Lib.hid er
    clear hpl hcj hhe hba hwh hz h1 h2 h3 z1 z2 z3 z4 hnm er hR
    unfold csIn Inst.ok; dsimp only; refine spec_of_body (tys := tys) 5 Tryz.func9 (by kernel_rfl) rfl tys_ok rfl (Nat.le_of_ble_eq_true rfl) (fun g i h => by simp only [List.mem_cons, List.not_mem_nil, or_false, Prod.mk.injEq] at h; omega) fun F hP hm hC hrd => ?_; conv => whnf
    repeat first | refine lwp_seq fun K hK => ?_ | (with_reducible refine gA ?_; apply_assumption -exfalso -symm) | refine Stp.h ?_ | refine gF rfl ?_ | refine gG rfl ?_ | refine gM hC rfl sd ?_
    (refine lwp_drawn hC (by rw [hP]; exact mixed) ⟨[], [], [(1, { f := 20, gl := [(0, 2)], hin := jobIn l ++ [(2, kdP)], args := [.sl 0 l.length], hout := [], ret := i64 0, σ := [(0, some 0), (1, some 1), (2, some 4)] }), (3, { f := 54, hin := [(0, .ro H.length 1 (.ints .i64 H))], args := [.sl 0 H.length], hout := [], ret := i64 0, σ := [(0, some 2)] }), (5, { f := 55, hin := [], args := [.agg [i64 lo, i64 hi]], hout := [], ret := i64 0, σ := [] }), (11, { f := 56, hin := [], args := [bl (decide ((D.length : Int) ≠ l.length)), i64 2], hout := [], ret := i64 0, σ := [] }), (13, PFirst_i [0, 0, 0, 0] [(0, some 7)])]⟩ (told1 _ (by rw [hP]; exact (calls_cons (HJ.out) (calls_cons (HH.out) (calls_cons (HBA.out) (calls_cons (HW.out) (calls_cons (PFirst_s _ _ (by simp)) calls_nil))))))) [0, 1, 0, 7, 0, 31, 0, 64, 0, 256, 960, 2047, 4095, 8191, 16383] 11 rfl ?_ ?_; rotate_left 1)
    · repeat first | refine lwp_seq fun K hK => ?_ | (with_reducible refine gA ?_; apply_assumption -exfalso -symm) | refine Stp.h ?_ | refine gF rfl ?_ | refine gG rfl ?_ | refine gM hC rfl sd ?_
      refine lwp_condS hC rfl sd ?_ ?_ <;> intro hb
      · exact absurd rfl hb
      · clear hb
        repeat first | refine lwp_seq fun K hK => ?_ | (with_reducible refine gA ?_; apply_assumption -exfalso -symm) | refine Stp.h ?_ | refine gF rfl ?_ | refine gG rfl ?_ | refine gM hC rfl sd ?_
        (refine lwp_region hC ⟨[], [], [(2, CfD_i H D [(0, some 2), (1, some 5), (2, some 3)])]⟩ (told1 _ (by rw [hP]; exact (calls_cons (CfD_s _ _ _ (by omega) (by omega)) calls_nil))) rfl ?_ ?_; rotate_left 1)
        · repeat first | refine lwp_seq fun K hK => ?_ | (with_reducible refine gA ?_; apply_assumption -exfalso -symm) | refine Stp.h ?_ | refine gF rfl ?_ | refine gG rfl ?_ | refine gM hC rfl sd ?_
          refine lwp_condS hC rfl sd ?_ ?_ <;> intro hb
          · have hX : csX l H hi D = 10 := if_pos hb
            have e := HER.out
            rw [hX, if_neg (by decide)] at e
            subst e
            clear hb hX
            repeat first | refine lwp_seq fun K hK => ?_ | (with_reducible refine gA ?_; apply_assumption -exfalso -symm) | refine Stp.h ?_ | refine gF rfl ?_ | refine gG rfl ?_ | refine gM hC rfl sd ?_
            (refine end_intro (by first | exact .inr rfl | exact .inl rfl) [] rfl ?_)
            exact sd
          · have hany : D.any (dyB H.length) = false := by simpa using hb
            have hX : csX l H hi D = firstS ((List.range l.length).map (ckS l H hi D)) := if_neg (by rw [hany]; decide)
            have hat := fun i (hi : i < l.length) => dyB_false (any_at (d := 0) hany (i := i) (by omega))
            have HAT := Lib.hid hat
            have HX := Lib.hid hX
            clear hb hany hat hX
            repeat first | refine lwp_seq fun K hK => ?_ | (with_reducible refine gA ?_; apply_assumption -exfalso -symm) | refine Stp.h ?_ | refine gF rfl ?_ | refine gG rfl ?_ | refine gM hC rfl sd ?_
            (refine lwp_drawn hC (by rw [hP]; exact mixed) ⟨[], [], [(4, Plc_i l [(0, some 0), (1, some 1)])]⟩ (told1 _ (by rw [hP]; exact (calls_cons (HP.out) calls_nil))) [0, 0, 0, 0, 8, 0, 63, 127, 255] 6 rfl ?_ ?_; rotate_left 1)
            · repeat first | refine lwp_seq fun K hK => ?_ | (with_reducible refine gA ?_; apply_assumption -exfalso -symm) | refine Stp.h ?_ | refine gF rfl ?_ | refine gG rfl ?_ | refine gM hC rfl sd ?_
              refine lwp_loop (fun i : Nat => ⟨[(44, i64 i), (43, i64 l.length), (11, .ptr 9 0 0 0), (3, .sl 3 l.length)], [(9, .blk 129 [.sl 0 l.length, .sl 2 H.length, i64 lo, i64 hi, .mp 8, .sl 3 l.length]), (8, .obj (.ix (nmJ l))), (0, jbCh l 1), (1, fmCh l), (2, .ro H.length 1 (.ints .i64 H)), (3, .ro l.length 1 (.ints .i64 D)), (4, kdP)], 10⟩) (fun i => i ≤ l.length ∧ csX l H hi D = firstS (((List.range l.length).map (ckS l H hi D)).drop i)) (fun i => l.length - i) 0 ⟨?_, sub_intro hm [(0, some 0), (1, some 1), (2, some 2), (3, some 3), (4, some 4), (8, some 8), (9, some 9)] rfl ?_⟩ ?_
              · exact ⟨Nat.zero_le _, HX.out⟩
              · rw [hDl]
                exact sd
              · rintro i ⟨hi1, hf⟩
                repeat first | refine lwp_seq fun K hK => ?_ | (with_reducible refine gA ?_; apply_assumption -exfalso -symm) | refine Stp.h ?_ | refine gF rfl ?_ | refine gG rfl ?_ | refine gM hC rfl sd ?_
                refine lwp_condS hC rfl sd ?_ ?_ <;> intro hb
                · have hi2 : i < l.length := by omega
                  rw [firstR_drop _ _ _ hi2] at hf
                  have HF := Lib.hid hf
                  have hck := Ck_s l H lo hi D i [(0, some 0), (1, some 1), (2, some 2), (3, some 8), (4, some 3), (5, some 9)] hi2 hl (hln i) hDl (HAT.out i hi2)
                  unfold Ck_i at hck
                  obtain ⟨c, hc⟩ : ∃ c, ckS l H hi D i = c := ⟨_, rfl⟩
                  rw [hc] at hck
                  have HCC := Lib.hid hc
                  have HCK := Lib.hid hck
                  clear hb hf hck hc
                  repeat first | refine lwp_seq fun K hK => ?_ | (with_reducible refine gA ?_; apply_assumption -exfalso -symm) | refine Stp.h ?_ | refine gF rfl ?_ | refine gG rfl ?_ | refine gM hC rfl sd ?_
                  (refine lwp_region hC ⟨[], [], [(2, { f := 60, hin := sqIn l H lo hi D, args := [.ptr 5 0 0 0, i64 i], hout := [(3, .obj (.ix (nmJ l)))], ret := i64 c, σ := [(0, some 0), (1, some 1), (2, some 2), (3, some 8), (4, some 3), (5, some 9)] })]⟩ (told1 _ (by rw [hP]; exact (calls_cons (HCK.out) calls_nil))) rfl ?_ ?_; rotate_left 1)
                  · repeat first | refine lwp_seq fun K hK => ?_ | (with_reducible refine gA ?_; apply_assumption -exfalso -symm) | refine Stp.h ?_ | refine gF rfl ?_ | refine gG rfl ?_ | refine gM hC rfl sd ?_
                    refine lwp_condS hC rfl sd ?_ ?_ <;> intro hb
                    · have hX : csX l H hi D = c := by rw [HF.out, HCC.out, if_neg hb]
                      have e := HER.out
                      rw [hX, if_neg hb] at e
                      subst e
                      clear hb hX
                      repeat first | refine lwp_seq fun K hK => ?_ | (with_reducible refine gA ?_; apply_assumption -exfalso -symm) | refine Stp.h ?_ | refine gF rfl ?_ | refine gG rfl ?_ | refine gM hC rfl sd ?_
                      (refine end_intro (by first | exact .inr rfl | exact .inl rfl) [] rfl ?_)
                      exact sd
                    · have hX := HF.out
                      rw [HCC.out, if_pos hb] at hX
                      have HN := Lib.hid hX
                      clear hb hX
                      repeat first | refine lwp_seq fun K hK => ?_ | (with_reducible refine gA ?_; apply_assumption -exfalso -symm) | refine Stp.h ?_ | refine gF rfl ?_ | refine gG rfl ?_ | refine gM hC rfl sd ?_
                      refine gA ⟨i + 1, ?_, ?_, sub_intro hm [(0, some 0), (1, some 1), (2, some 2), (3, some 3), (4, some 4), (8, some 8), (9, some 9)] rfl ?_⟩
                      · exact ⟨hi2, HN.out⟩
                      · omega
                      · exact sd
                  · exact sd
                · obtain rfl : i = l.length := by omega
                  rw [firstR_all] at hf
                  have e := HER.out
                  rw [if_pos hf] at e
                  subst e
                  have hmx := MxI_s D [(0, some 10)] (by omega)
                  unfold MxI_i at hmx
                  rw [hDl] at hmx
                  have HM := Lib.hid hmx
                  clear hb hf hmx
                  repeat first | refine lwp_seq fun K hK => ?_ | (with_reducible refine gA ?_; apply_assumption -exfalso -symm) | refine Stp.h ?_ | refine gF rfl ?_ | refine gG rfl ?_ | refine gM hC rfl sd ?_
                  (refine lwp_region hC ⟨[], [], [(3, { f := 61, hin := [(0, .ro (1 + l.length) 1 (.ints .i64 (0 :: D)))], args := [.sl 0 (1 + l.length)], hout := [], ret := i64 (grS D), σ := [(0, some 11)] })]⟩ (told1 _ (by rw [hP]; exact (calls_cons (HM.out) calls_nil))) rfl ?_ ?_; rotate_left 1)
                  · repeat first | refine lwp_seq fun K hK => ?_ | (with_reducible refine gA ?_; apply_assumption -exfalso -symm) | refine Stp.h ?_ | refine gF rfl ?_ | refine gG rfl ?_ | refine gM hC rfl sd ?_
                    (refine end_intro (by first | exact .inr rfl | exact .inl rfl) [] rfl ?_)
                    exact sd
                  · have hcat := catI_head 0 D
                    simp only [AllL, All, cd_p, cp_p, cv_p]
                    exact ⟨⟨hcat, trivial, trivial, trivial⟩, ⟨⟨trivial, trivial, by omega⟩, trivial⟩, trivial⟩
            · exact sd
        · exact sd
    · exact sd
  · have e : csR l H lo hi D = (0, csE l H lo hi D) := if_neg hz
    unfold CSq_i
    rw [e]
    dsimp only
    unfold csIn Inst.ok; dsimp only; refine spec_of_body (tys := tys) 5 Tryz.func9 (by kernel_rfl) rfl tys_ok rfl (Nat.le_of_ble_eq_true rfl) (fun g i h => by simp only [List.mem_cons, List.not_mem_nil, or_false, Prod.mk.injEq] at h; omega) fun F hP hm hC hrd => ?_; conv => whnf
    repeat first | refine lwp_seq fun K hK => ?_ | (with_reducible refine gA ?_; apply_assumption -exfalso -symm) | refine Stp.h ?_ | refine gF rfl ?_ | refine gG rfl ?_ | refine gM hC rfl sd ?_
    (refine lwp_drawn hC (by rw [hP]; exact mixed) ⟨[], [], [(1, CJb_i l [(0, some 0), (1, some 1), (2, some 4)]), (3, Heat_i H [(0, some 2)]), (5, PBand_i lo hi), (11, PWhen_i (decide ((D.length : Int) ≠ l.length)) 2), (13, PFirst_i [jobsE l, heatE H, bandS lo hi, whenS (decide ((D.length : Int) ≠ l.length)) 2] [(0, some 7)])]⟩ (told1 _ (by rw [hP]; exact (calls_cons (CJb_s _ _ hl hln) (calls_cons (Heat_s _ _ (by omega)) (calls_cons (PBand_s _ _) (calls_cons (PWhen_s _ _) (calls_cons (PFirst_s _ _ (by simp)) calls_nil))))))) [0, 1, 0, 7, 0, 31, 0, 64, 0, 256, 960, 2047, 4095, 8191, 16383] 11 rfl ?_ ?_; rotate_left 1)
    · repeat first | refine lwp_seq fun K hK => ?_ | (with_reducible refine gA ?_; apply_assumption -exfalso -symm) | refine Stp.h ?_ | refine gF rfl ?_ | refine gG rfl ?_ | refine gM hC rfl sd ?_
      refine lwp_condS hC rfl sd ?_ ?_ <;> intro hb
      · repeat first | refine lwp_seq fun K hK => ?_ | (with_reducible refine gA ?_; apply_assumption -exfalso -symm) | refine Stp.h ?_ | refine gF rfl ?_ | refine gG rfl ?_ | refine gM hC rfl sd ?_
        (refine end_intro (by first | exact .inr rfl | exact .inl rfl) [] rfl ?_)
        exact sd
      · exact absurd hb hz
    · exact sd

end Go.Proofs.YtlhgddgoblliaaaGreatDoor
