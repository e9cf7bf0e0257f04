/- Chapter 9: the check of jobs, the program's. -/
import Derived.Test.YtlhgddgoblliaaaGreatDoorVd
set_option linter.unusedVariables false
set_option linter.unusedSimpArgs false
namespace Go.Proofs.YtlhgddgoblliaaaGreatDoor
open Go.RowKit Go.Sym

abbrev kT : ByteArray := ⟨⟨[116, 97, 109, 112]⟩⟩
abbrev kG : ByteArray := ⟨⟨[103, 114, 105, 110, 100]⟩⟩
abbrev kW : ByteArray := ⟨⟨[119, 101, 108, 100]⟩⟩
def kN : List ByteArray := [kT, kG, kW]
abbrev kdP : Chunk := .rb 145 [.lit (.string ⟨⟨[116, 97, 109, 112]⟩⟩), .lit (.string ⟨⟨[103, 114, 105, 110, 100]⟩⟩), .lit (.string ⟨⟨[119, 101, 108, 100]⟩⟩)]
theorem kN_cells : (strC kN).cells = (Cont.exp [.lit (.string ⟨⟨[116, 97, 109, 112]⟩⟩), .lit (.string ⟨⟨[103, 114, 105, 110, 100]⟩⟩), .lit (.string ⟨⟨[119, 101, 108, 100]⟩⟩)]).cells := rfl
def jbAt (l : List Jb) (k : Nat) : Int := firstS [whenS (!nameOk (l.getD k jbD).name) 8, whenS (memS (nmJ (l.take k)) (l.getD k jbD).name) 9, whenS (!memS kN (l.getD k jbD).kind) 13, whenS (decide ((lnJ l k : Int) > 8)) 5]
def chE (l : List Jb) (k : Nat) : Int := afE (nmJ l) (l.getD k jbD).af
def jbsE (l : List Jb) : Int := firstS ((List.range l.length).map (jbAt l))
def chsE (l : List Jb) : Int := firstS ((List.range l.length).map (chE l))
def jobsE (l : List Jb) : Int := if (l.length : Int) > 8 then 5 else firstS [jbsE l, chsE l, whenS (cycB l) 33]
theorem jbs_names {l : List Jb} (h : jbsE l = 0) : ∀ k, k < l.length → memS (nmJ (l.take k)) (l.getD k jbD).name = false := fun k hk => by
  have h1 := firstR_zero h k hk
  have h2 := ((firstS_cons _ _).1 ((firstS_cons _ _).1 h1).2).1
  exact (whenS_zero (by decide)).1 h2
def CJb_i (l : List Jb) (σ : Ren) : Inst := { f := 20, gl := [(0, 2)], hin := jobIn l ++ [(2, kdP)], args := [.sl 0 l.length], hout := [], ret := i64 (jobsE l), σ := σ }
set_option maxRecDepth 20000 in
set_option maxHeartbeats 4000000 in
theorem CJb_s (l : List Jb) (σ : Ren) (hl : l.length ≤ 1000) (hln : ∀ k, lnJ l k ≤ 1000) : (CJb_i l σ).ok Tryz.prog := by
  unfold CJb_i jobIn Inst.ok; dsimp only; refine spec_of_body (tys := tys) 3 Tryz.func20 (by kernel_rfl) rfl tys_ok rfl (Nat.le_of_ble_eq_true rfl) (fun g i h => by simp only [List.mem_cons, List.not_mem_nil, or_false, Prod.mk.injEq] at h; omega) fun F hP hm hC hrd => ?_; conv => whnf
  repeat first | refine lwp_seq fun K hK => ?_ | (with_reducible refine gA ?_; apply_assumption -exfalso -symm) | refine Stp.h ?_ | refine gF rfl ?_ | refine gG rfl ?_ | refine gM hC rfl sd ?_
  refine lwp_condS hC rfl sd ?_ ?_ <;> intro hb
  · have e : jobsE l = 5 := if_pos hb
    clear hb
    repeat first | refine lwp_seq fun K hK => ?_ | (with_reducible refine gA ?_; apply_assumption -exfalso -symm) | refine Stp.h ?_ | refine gF rfl ?_ | refine gG rfl ?_ | refine gM hC rfl sd ?_
    (refine end_intro (by first | exact .inr rfl | exact .inl rfl) [] rfl ?_)
    rw [e]
    exact ⟨rfl, trivial⟩
  · have e : jobsE l = firstS [jbsE l, chsE l, whenS (cycB l) 33] := if_neg hb
    have E := Lib.hid e
    clear hb e
    have hkc := kN_cells
    repeat first | refine lwp_seq fun K hK => ?_ | (with_reducible refine gA ?_; apply_assumption -exfalso -symm) | refine Stp.h ?_ | refine gF rfl ?_ | refine gG rfl ?_
    (refine lwp_region hC ⟨[(0, { b := some true })], [], []⟩ (told0 _ _) rfl ?_ ?_; rotate_left 1)
    · repeat first | refine lwp_seq fun K hK => ?_ | (with_reducible refine gA ?_; apply_assumption -exfalso -symm) | refine Stp.h ?_ | refine gF rfl ?_ | refine gG rfl ?_ | refine gM hC rfl sd ?_
      refine lwp_loop (fun k : Nat => ⟨[(17, i64 k), (16, i64 l.length), (15, .sl 0 l.length), (3, .mp 3), (0, .sl 0 l.length)], [(3, .obj (.set (nmJ (l.take k)))), (0, jbCh l 1), (1, fmCh l), (2, kdP)], 4⟩) (fun k => k ≤ l.length ∧ jbsE l = firstS (((List.range l.length).map (jbAt l)).drop k)) (fun k => l.length - k) 0 ⟨?_, sub_intro hm [(0, some 0), (1, some 1), (2, some 2), (3, some 3)] rfl ?_⟩ ?_
      · exact ⟨Nat.zero_le _, rfl⟩
      · exact sd
      · rintro k ⟨hk, hf⟩
        have hkk : ((k : Int)).toNat = k := Int.toNat_natCast k
        have hlk := hln k
        repeat first | refine lwp_seq fun K hK => ?_ | (with_reducible refine gA ?_; apply_assumption -exfalso -symm) | refine Stp.h ?_ | refine gF rfl ?_ | refine gG rfl ?_ | refine gM hC rfl sd ?_
        refine lwp_condS hC rfl sd ?_ ?_ <;> intro hb
        · have hk2 : k < l.length := by omega
          rw [firstR_drop _ _ _ hk2] at hf
          have HF := Lib.hid hf
          clear hf hb
          repeat first | refine lwp_seq fun K hK => ?_ | (with_reducible refine gA ?_; apply_assumption -exfalso -symm) | refine Stp.h ?_ | refine gF rfl ?_ | refine gG rfl ?_
          (refine lwp_region hC ⟨[], [], []⟩ (told0 _ _) rfl ?_ ?_; rotate_left 1)
          · rw [hkk]
            repeat first | refine lwp_seq fun K hK => ?_ | (with_reducible refine gA ?_; apply_assumption -exfalso -symm) | refine Stp.h ?_ | refine gF rfl ?_ | refine gG rfl ?_
            (refine lwp_drawn2 hC (by rw [hP]; exact mixed) ⟨[], [], [(2, SName_i (l.getD k jbD).name), (4, PWhen_i (!nameOk (l.getD k jbD).name) 8), (9, PWhen_i (memS (nmJ (l.take k)) (l.getD k jbD).name) 9), (13, CtS_i kN (l.getD k jbD).kind [(0, some 6)]), (15, PWhen_i (!memS kN (l.getD k jbD).kind) 13), (20, PWhen_i (decide ((lnJ l k : Int) > 8)) 5), (22, PFirst_i [whenS (!nameOk (l.getD k jbD).name) 8, whenS (memS (nmJ (l.take k)) (l.getD k jbD).name) 9, whenS (!memS kN (l.getD k jbD).kind) 13, whenS (decide ((lnJ l k : Int) > 8)) 5] [(0, some 7)])]⟩ (told1 _ (by rw [hP]; exact (calls_cons (SName_s _) (calls_cons (PWhen_s _ _) (calls_cons (PWhen_s _ _) (calls_cons (CtS_s _ _ _ (by decide)) (calls_cons (PWhen_s _ _) (calls_cons (PWhen_s _ _) (calls_cons (PFirst_s _ _ (by simp)) calls_nil))))))))) [0, 1, 3, 7, 15, 0, 0, 64, 224, 511, 0, 0, 2048, 8191, 16383, 32767, 0, 65536, 196608, 458752, 1048575, 2097151, 4194303, 8388607] 24 0 rfl ?_ ?_; rotate_left 1)
            · repeat first | refine lwp_seq fun K hK => ?_ | (with_reducible refine gA ?_; apply_assumption -exfalso -symm) | refine Stp.h ?_ | refine gF rfl ?_ | refine gG rfl ?_ | refine gM hC rfl sd ?_
              refine lwp_condS hC rfl sd ?_ ?_ <;> intro hb
              · have hf := HF.out
                have e := E.out
                rw [if_neg (show ¬ jbAt l k = 0 from hb)] at hf
                have e2 : jobsE l = jbAt l k := by
                  rw [e, hf]; simp only [firstS, if_neg (show ¬ jbAt l k = 0 from hb)]
                clear hf e HF E
                have HE := Lib.hid e2
                clear e2
                repeat first | refine lwp_seq fun K hK => ?_ | (with_reducible refine gA ?_; apply_assumption -exfalso -symm) | refine Stp.h ?_ | refine gF rfl ?_ | refine gG rfl ?_ | refine gM hC rfl sd ?_
                (refine end_intro (by first | exact .inr rfl | exact .inl rfl) [] rfl ?_)
                rw [HE.out]
                exact ⟨rfl, trivial⟩
              · have hf := HF.out
                rw [if_pos (show jbAt l k = 0 from hb)] at hf
                have hm0 : memS (nmJ (l.take k)) (l.getD k jbD).name = false := by
                  have h2 := ((firstS_cons _ _).1 ((firstS_cons _ _).1 (show jbAt l k = 0 from hb)).2).1
                  exact (whenS_zero (by decide)).1 h2
                have hu : setU (nmJ (l.take k)) (l.getD k jbD).name = nmJ (l.take (k + 1)) := by
                  unfold setU
                  rw [hm0, nmJ_take l hk2]
                have HG := Lib.hid hf
                clear hb hm0 hf HF
                repeat first | refine lwp_seq fun K hK => ?_ | (with_reducible refine gA ?_; apply_assumption -exfalso -symm) | refine Stp.h ?_ | refine gF rfl ?_ | refine gG rfl ?_ | refine gM hC rfl sd ?_
                refine gA ⟨k + 1, ?_, ?_, sub_intro hm [(0, some 0), (1, some 1), (2, some 2), (3, some 3)] rfl ?_⟩
                · exact ⟨by omega, HG.out⟩
                · omega
                · exact sd
            · exact sd
          · rw [hkk]
            exact sd
        · obtain rfl : k = l.length := by omega
          rw [firstR_all] at hf
          have hnm := jbs_names hf
          have e := E.out
          rw [hf] at e
          have e : jobsE l = firstS [chsE l, whenS (cycB l) 33] := by rw [e]; simp only [firstS, if_true]
          have E2 := Lib.hid e
          have HNM := Lib.hid hnm
          clear hb hf e E hnm
          repeat first | refine lwp_seq fun K hK => ?_ | (with_reducible refine gA ?_; apply_assumption -exfalso -symm) | refine Stp.h ?_ | refine gF rfl ?_ | refine gG rfl ?_ | refine gM hC rfl sd ?_
          (refine lwp_region hC ⟨[], [], [(1, Plc_i l [(0, some 0), (1, some 1)])]⟩ (told1 _ (by rw [hP]; exact (calls_cons (Plc_s _ _ hl HNM.out) calls_nil))) rfl ?_ ?_; rotate_left 1)
          · repeat first | refine lwp_seq fun K hK => ?_ | (with_reducible refine gA ?_; apply_assumption -exfalso -symm) | refine Stp.h ?_ | refine gF rfl ?_ | refine gG rfl ?_ | refine gM hC rfl sd ?_
            refine lwp_loop (fun k : Nat => ⟨[(55, i64 k), (54, i64 l.length), (53, .sl 0 l.length), (7, .mp 3), (0, .sl 0 l.length)], [(3, .obj (.ix (nmJ l))), (0, jbCh l 1), (1, fmCh l), (2, kdP)], 4⟩) (fun k => k ≤ l.length ∧ chsE l = firstS (((List.range l.length).map (chE l)).drop k)) (fun k => l.length - k) 0 ⟨?_, sub_intro hm [(0, some 0), (1, some 1), (2, some 2), (3, some 4)] rfl ?_⟩ ?_
            · exact ⟨Nat.zero_le _, rfl⟩
            · exact sd
            · rintro k ⟨hk, hf⟩
              have hkk : ((k : Int)).toNat = k := Int.toNat_natCast k
              have hlk := hln k
              repeat first | refine lwp_seq fun K hK => ?_ | (with_reducible refine gA ?_; apply_assumption -exfalso -symm) | refine Stp.h ?_ | refine gF rfl ?_ | refine gG rfl ?_ | refine gM hC rfl sd ?_
              refine lwp_condS hC rfl sd ?_ ?_ <;> intro hb
              · have hk2 : k < l.length := by omega
                rw [firstR_drop _ _ _ hk2] at hf
                have HF := Lib.hid hf
                clear hf hb
                repeat first | refine lwp_seq fun K hK => ?_ | (with_reducible refine gA ?_; apply_assumption -exfalso -symm) | refine Stp.h ?_ | refine gF rfl ?_ | refine gG rfl ?_
                (refine lwp_region hC ⟨[], [], []⟩ (told0 _ _) rfl ?_ ?_; rotate_left 1)
                · rw [hkk]
                  repeat first | refine lwp_seq fun K hK => ?_ | (with_reducible refine gA ?_; apply_assumption -exfalso -symm) | refine Stp.h ?_ | refine gF rfl ?_ | refine gG rfl ?_
                  (refine lwp_region hC ⟨[], [], [(2, ChA_i (nmJ l) l k [(0, some 3), (1, some 1)])]⟩ (told1 _ (by rw [hP]; exact (calls_cons (ChA_s _ _ _ _ hk2 hlk) calls_nil))) rfl ?_ ?_; rotate_left 1)
                  · repeat first | refine lwp_seq fun K hK => ?_ | (with_reducible refine gA ?_; apply_assumption -exfalso -symm) | refine Stp.h ?_ | refine gF rfl ?_ | refine gG rfl ?_ | refine gM hC rfl sd ?_
                    refine lwp_condS hC rfl sd ?_ ?_ <;> intro hb
                    · have hf := HF.out
                      have e := E2.out
                      rw [if_neg (show ¬ chE l k = 0 from hb)] at hf
                      have e2 : jobsE l = chE l k := by
                        rw [e, hf]; simp only [firstS, if_neg (show ¬ chE l k = 0 from hb)]
                      clear hf e HF E2
                      have HE := Lib.hid e2
                      clear e2
                      repeat first | refine lwp_seq fun K hK => ?_ | (with_reducible refine gA ?_; apply_assumption -exfalso -symm) | refine Stp.h ?_ | refine gF rfl ?_ | refine gG rfl ?_ | refine gM hC rfl sd ?_
                      (refine end_intro (by first | exact .inr rfl | exact .inl rfl) [] rfl ?_)
                      rw [HE.out]
                      exact ⟨rfl, trivial⟩
                    · have hf := HF.out
                      rw [if_pos (show chE l k = 0 from hb)] at hf
                      have HG := Lib.hid hf
                      clear hb hf HF
                      repeat first | refine lwp_seq fun K hK => ?_ | (with_reducible refine gA ?_; apply_assumption -exfalso -symm) | refine Stp.h ?_ | refine gF rfl ?_ | refine gG rfl ?_ | refine gM hC rfl sd ?_
                      refine gA ⟨k + 1, ?_, ?_, sub_intro hm [(0, some 0), (1, some 1), (2, some 2), (3, some 3)] rfl ?_⟩
                      · exact ⟨by omega, HG.out⟩
                      · omega
                      · exact sd
                  · exact sd
                · rw [hkk]
                  exact sd
              · obtain rfl : k = l.length := by omega
                rw [firstR_all] at hf
                have e := E2.out
                rw [hf] at e
                have e : jobsE l = whenS (cycB l) 33 := by
                  rw [e]; simp only [firstS, if_true]; split <;> simp_all
                have E3 := Lib.hid e
                clear hb hf e E2
                repeat first | refine lwp_seq fun K hK => ?_ | (with_reducible refine gA ?_; apply_assumption -exfalso -symm) | refine Stp.h ?_ | refine gF rfl ?_ | refine gG rfl ?_ | refine gM hC rfl sd ?_
                (refine lwp_region hC ⟨[], [], [(2, Cyc_i l [(0, some 0), (1, some 1), (2, some 3)]), (3, PWhen_i (cycB l) 33)]⟩ (told1 _ (by rw [hP]; exact (calls_cons (Cyc_s _ _ hl hln) (calls_cons (PWhen_s _ _) calls_nil)))) rfl ?_ ?_; rotate_left 1)
                · repeat first | refine lwp_seq fun K hK => ?_ | (with_reducible refine gA ?_; apply_assumption -exfalso -symm) | refine Stp.h ?_ | refine gF rfl ?_ | refine gG rfl ?_ | refine gM hC rfl sd ?_
                  (refine end_intro (by first | exact .inr rfl | exact .inl rfl) [] rfl ?_)
                  rw [E3.out]
                  exact ⟨rfl, trivial⟩
                · exact sd
          · exact sd
    · exact sd

end Go.Proofs.YtlhgddgoblliaaaGreatDoor
