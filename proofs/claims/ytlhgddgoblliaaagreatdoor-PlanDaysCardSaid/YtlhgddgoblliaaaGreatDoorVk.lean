/- Chapter 9: Chain, the program's. -/
import Derived.Test.YtlhgddgoblliaaaGreatDoorVj
set_option linter.unusedVariables false
set_option linter.unusedSimpArgs false
namespace Go.Proofs.YtlhgddgoblliaaaGreatDoor
open Go.RowKit Go.Sym

def Chn_i (l : List Jb) (σ : Ren) : Inst := { f := 22, gl := [(0, 2)], hin := jobIn l ++ [(2, kdP)], args := [.sl 0 l.length], hout := [(3, .row 9 (chR l).length 1 (strC (chR l)))], ret := .tup [.sl 3 (chR l).length, i64 (chE2 l)], σ := σ }
set_option maxRecDepth 20000 in
set_option maxHeartbeats 8000000 in
theorem Chn_s (l : List Jb) (σ : Ren) (hl : l.length ≤ 1000) (hln : ∀ k, lnJ l k ≤ 1000) : (Chn_i l σ).ok Tryz.prog := by
  by_cases hz : chE2 l = 0
  · obtain ⟨z1, z2, z3, z4, z5⟩ := chE2_zero hz
    obtain ⟨rk, hrk⟩ := jobs_ranked z4 z5
    have e1 : chR l = chS l := if_pos hz
    have hfd : ∀ k, k < l.length → fnd l (l.getD k jbD).name = k := fun k hk => by
      by_cases e : fnd l (l.getD k jbD).name = k
      · exact e
      · have := (fnd_first hk).1 e
        rw [jbs_names z4 k hk] at this; cases this
    have hself : ∀ i q, i < l.length → edJ l i q = true → q < l.length → q ≠ i := fun i q hi he hq e => by
      subst e
      have := hrk.1 q q hi hi he
      omega
    have hcj := CJb_s l [(0, some 0), (1, some 1), (2, some 2)] hl hln
    unfold CJb_i at hcj
    rw [z1] at hcj
    obtain ⟨a0, ha0, hat, hcb⟩ := at_is hrk z2
    have hnx := fun a ha hm => nx_is hrk (a := a) ha hm
    have hend := fun a ha hm => chain_end hrk (i := a) ha hm
    have hmx := MxZ_s (mJ l) [(0, some 4)] (by rw [mJ_len]; omega) (by rw [mJ_len]; exact z2) (fun k => by have := mJ_le l k; omega)
    unfold MxZ_i at hmx
    rw [mJ_len] at hmx
    have hix := IxZ_s (toI (mJ l)) (mxV (mJ l) l.length : Nat) [(0, some 4)] (by rw [toI_len, mJ_len]; omega)
    unfold IxZ_i at hix
    rw [toI_len, mJ_len, hat] at hix
    have hst := fun r i W h hi => inV_step hrk (r := r) (i := i) (W := W) h hi
    have hCS : chS l = nmsJ l (chB l) := rfl
    unfold Chn_i
    rw [e1, hz, hCS, hcb]
    have HFD := Lib.hid hfd
    have HSF := Lib.hid hself
    have HCJ := Lib.hid hcj
    have HNX := Lib.hid hnx
    have HEND := Lib.hid hend
    have HMX := Lib.hid hmx
    have HIX := Lib.hid hix
    have HST := Lib.hid hst
    have HML := Lib.hid (mJ_le l)
    have HPOS := Lib.hid (fun a ha => mF_pos hrk (i := a) ha)
    have hml := mJ_len l
    clear hfd hself hcj hnx hend hmx hix hst hCS hcb hat e1 hz z1 z4 z5 hrk
    unfold jobIn Inst.ok; dsimp only; refine spec_of_body (tys := tys) 3 Tryz.func22 (by kernel_rfl) rfl tys_ok rfl (Nat.le_of_ble_eq_true rfl) (fun g i h => by simp only [List.mem_cons, List.not_mem_nil, or_false, Prod.mk.injEq] at h; omega) fun F hP hm hC hrd => ?_; conv => whnf
    repeat first | refine lwp_seq fun K hK => ?_ | (with_reducible refine gA ?_; apply_assumption -exfalso -symm) | refine Stp.h ?_ | refine gF rfl ?_ | refine gG rfl ?_ | refine gM hC rfl sd ?_
    (refine lwp_drawn hC (by rw [hP]; exact mixed) ⟨[], [], [(1, { f := 20, gl := [(0, 2)], hin := jobIn l ++ [(2, kdP)], args := [.sl 0 l.length], hout := [], ret := i64 0, σ := [(0, some 0), (1, some 1), (2, some 2)] }), (5, PWhen_i (decide ((l.length : Int) = 0)) 7), (7, PFirst_i [0, whenS (decide ((l.length : Int) = 0)) 7] [(0, some 4)])]⟩ (told1 _ (by rw [hP]; exact (calls_cons (HCJ.out) (calls_cons (PWhen_s _ _) (calls_cons (PFirst_s _ _ (by simp)) calls_nil))))) [0, 1, 0, 4, 12, 31, 63, 127, 255] 5 rfl ?_ ?_; rotate_left 1)
    · have hf0 : firstS [0, whenS (decide ((l.length : Int) = 0)) 7] = 0 := by rw [decide_eq_false (show ¬ (l.length : Int) = 0 by omega)]; rfl
      rw [hf0]
      clear hf0
      repeat first | refine lwp_seq fun K hK => ?_ | (with_reducible refine gA ?_; apply_assumption -exfalso -symm) | refine Stp.h ?_ | refine gF rfl ?_ | refine gG rfl ?_ | refine gM hC rfl sd ?_
      refine lwp_condS hC rfl sd ?_ ?_ <;> intro hb
      · exact absurd rfl hb
      · clear hb
        repeat first | refine lwp_seq fun K hK => ?_ | (with_reducible refine gA ?_; apply_assumption -exfalso -symm) | refine Stp.h ?_ | refine gF rfl ?_ | refine gG rfl ?_ | refine gM hC rfl sd ?_
        refine lwp_loop (fun s : Nat × List Nat => ⟨[(29, i64 (s.1 : Int)), (28, i64 l.length), (1, .ptr 3 0 0 0), (5, .ptr 5 0 0 0)], [(4, .row 3 l.length 1 (.ints .i64 (toI s.2))), (5, .blk 23 [.sl 4 l.length]), (3, .blk 33 [.sl 0 l.length]), (0, jbCh l 1), (1, fmCh l), (2, kdP)], 6⟩) (fun s => s.1 ≤ l.length ∧ InV l s.1 0 s.2) (fun s => l.length - s.1) (0, List.replicate l.length 0) ⟨?_, sub_intro hm [(0, some 0), (1, some 1), (2, some 2), (3, some 3), (4, some 5), (5, some 6)] rfl ?_⟩ ?_
        · exact ⟨Nat.zero_le _, inV_zero l⟩
        · have e := toI_rep l.length
          dsimp only
          rw [← e]
          exact sd
        · rintro ⟨r, V⟩ ⟨hr, hv⟩
          dsimp only at hr hv ⊢
          have HV := Lib.hid hv
          clear hv
          repeat first | refine lwp_seq fun K hK => ?_ | (with_reducible refine gA ?_; apply_assumption -exfalso -symm) | refine Stp.h ?_ | refine gF rfl ?_ | refine gG rfl ?_ | refine gM hC rfl sd ?_
          refine lwp_condS hC rfl sd ?_ ?_ <;> intro hb
          · have hr2 : r < l.length := by omega
            clear hb
            repeat first | refine lwp_seq fun K hK => ?_ | (with_reducible refine gA ?_; apply_assumption -exfalso -symm) | refine Stp.h ?_ | refine gF rfl ?_ | refine gG rfl ?_ | refine gM hC rfl sd ?_
            refine lwp_loop (fun s : Nat × List Nat => ⟨[(33, i64 (s.1 : Int)), (32, i64 l.length), (31, .sl 0 l.length), (29, i64 (r : Int)), (28, i64 l.length), (1, .ptr 3 0 0 0), (5, .ptr 5 0 0 0)], [(4, .row 3 l.length 1 (.ints .i64 (toI s.2))), (5, .blk 23 [.sl 4 l.length]), (3, .blk 33 [.sl 0 l.length]), (0, jbCh l 1), (1, fmCh l), (2, kdP)], 6⟩) (fun s => s.1 ≤ l.length ∧ InV l r s.1 s.2) (fun s => l.length - s.1) (0, V) ⟨?_, sub_intro hm [(0, some 0), (1, some 1), (2, some 2), (3, some 3), (4, some 4), (5, some 5)] rfl ?_⟩ ?_
            · exact ⟨Nat.zero_le _, HV.out⟩
            · exact sd
            · rintro ⟨i, W⟩ ⟨hi, hw⟩
              dsimp only at hi hw ⊢
              have hii : ((i : Int)).toNat = i := Int.toNat_natCast i
              have hwl := hw.len
              have HW := Lib.hid hw
              clear hw
              repeat first | refine lwp_seq fun K hK => ?_ | (with_reducible refine gA ?_; apply_assumption -exfalso -symm) | refine Stp.h ?_ | refine gF rfl ?_ | refine gG rfl ?_ | refine gM hC rfl sd ?_
              refine lwp_condS hC rfl sd ?_ ?_ <;> intro hb
              · have hi2 : i < l.length := by omega
                clear hb
                have htl := toI_len W
                have hs1 : (toI W).set i 1 = toI (W.set i (1 + mxF (wF W) (edJ l i) 0)) := toI_set W i 1
                have HS1 := Lib.hid hs1
                clear hs1
                repeat first | refine lwp_seq fun K hK => ?_ | (with_reducible refine gA ?_; apply_assumption -exfalso -symm) | refine Stp.h ?_ | refine gF rfl ?_ | refine gG rfl ?_
                (refine lwp_region hC ⟨[], [], []⟩ (told0 _ _) rfl ?_ ?_; rotate_left 1)
                · rw [hii]
                  repeat first | refine lwp_seq fun K hK => ?_ | (with_reducible refine gA ?_; apply_assumption -exfalso -symm) | refine Stp.h ?_ | refine gF rfl ?_ | refine gG rfl ?_
                  (refine lwp_region hC ⟨[], [], []⟩ (told0 _ _) rfl ?_ ?_; rotate_left 1)
                  · rw [hii, HS1.out]
                    repeat first | refine lwp_seq fun K hK => ?_ | (with_reducible refine gA ?_; apply_assumption -exfalso -symm) | refine Stp.h ?_ | refine gF rfl ?_ | refine gG rfl ?_ | refine gM hC rfl sd ?_
                    refine lwp_loop (fun q : Nat => ⟨[(43, i64 (q : Int)), (42, i64 l.length), (41, .sl 0 l.length), (6, i64 (i : Int)), (7, .ptr 6 0 0 0), (33, i64 (i : Int)), (32, i64 l.length), (31, .sl 0 l.length), (29, i64 (r : Int)), (28, i64 l.length), (1, .ptr 3 0 0 0), (5, .ptr 5 0 0 0)], [(4, .row 3 l.length 1 (.ints .i64 (toI (W.set i (1 + mxF (wF W) (edJ l i) q))))), (6, .blk 131 [Sb (l.getD i jbD).name, Sb (l.getD i jbD).kind, .tb 1 (.row i (lnJ l i))]), (5, .blk 23 [.sl 4 l.length]), (3, .blk 33 [.sl 0 l.length]), (0, jbCh l 1), (1, fmCh l), (2, kdP)], 7⟩) (fun q => q ≤ l.length) (fun q => l.length - q) 0 ⟨?_, sub_intro hm [(0, some 0), (1, some 1), (2, some 2), (3, some 3), (4, some 4), (5, some 5), (6, some 6)] rfl ?_⟩ ?_
                    · exact Nat.zero_le _
                    · exact sd
                    · rintro q hq
                      have hqq : ((q : Int)).toNat = q := Int.toNat_natCast q
                      have hlq := hln q
                      repeat first | refine lwp_seq fun K hK => ?_ | (with_reducible refine gA ?_; apply_assumption -exfalso -symm) | refine Stp.h ?_ | refine gF rfl ?_ | refine gG rfl ?_ | refine gM hC rfl sd ?_
                      refine lwp_condS hC rfl sd ?_ ?_ <;> intro hb
                      · have hq2 : q < l.length := by omega
                        clear hb
                        have hon : edJ l i q = true → mxF (wF W) (edJ l i) (q + 1) = max (mxF (wF W) (edJ l i) q) (W.getD q 0) := fun h => if_pos h
                        have hoff : edJ l i q = false → mxF (wF W) (edJ l i) (q + 1) = mxF (wF W) (edJ l i) q := fun h => if_neg (by rw [h]; decide)
                        have hsf := HSF.out i q hi2
                        have hwq := (HW.out.lo q hq2).2
                        have hle := mF_le (n := l.length) (E := edJ l) l.length q
                        have hmq : mxF (wF W) (edJ l i) q ≤ l.length := by
                          rcases Nat.eq_zero_or_pos (mxF (wF W) (edJ l i) q) with h | h
                          · omega
                          · obtain ⟨j, j1, _, j3⟩ := mxF_at h
                            have h5 := (HW.out.lo j (by omega)).2
                            have h6 := mF_le (n := l.length) (E := edJ l) l.length j
                            have j3 : W.getD j 0 = _ := j3
                            omega
                        obtain ⟨x, hx⟩ : ∃ x, mxF (wF W) (edJ l i) q = x := ⟨_, rfl⟩
                        rw [hx] at hon hoff hmq
                        rw [hx]
                        clear hx
                        have hgi := toI_getD (W.set i (1 + x)) i
                        have hgq := toI_getD (W.set i (1 + x)) q
                        rw [set_at (by omega), if_pos rfl] at hgi
                        rw [set_at (by omega)] at hgq
                        have hsl : (toI (W.set i (1 + x))).length = l.length := by rw [toI_len, List.length_set]; exact hwl
                        have hct := CtT_s l q (l.getD i jbD).name [(0, some 1)] hq2 (by omega)
                        unfold CtT_i at hct
                        obtain ⟨e, hee⟩ : ∃ e, edJ l i q = e := ⟨_, rfl⟩
                        rw [show memS (l.getD q jbD).af (l.getD i jbD).name = e from hee] at hct
                        rw [hee] at hon hoff hsf
                        have HCT := Lib.hid hct
                        have HON := Lib.hid hon
                        have HOFF := Lib.hid hoff
                        have HSFF := Lib.hid hsf
                        have HGI := Lib.hid hgi
                        have HGQ := Lib.hid hgq
                        clear hct hon hoff hsf hee hgi hgq
                        repeat first | refine lwp_seq fun K hK => ?_ | (with_reducible refine gA ?_; apply_assumption -exfalso -symm) | refine Stp.h ?_ | refine gF rfl ?_ | refine gG rfl ?_
                        (refine lwp_region hC ⟨[], [], []⟩ (told0 _ _) rfl ?_ ?_; rotate_left 1)
                        · rw [hqq]
                          repeat first | refine lwp_seq fun K hK => ?_ | (with_reducible refine gA ?_; apply_assumption -exfalso -symm) | refine Stp.h ?_ | refine gF rfl ?_ | refine gG rfl ?_
                          (refine lwp_region hC ⟨[], [], [(4, { f := 72, hin := [(0, fmCh l)], args := [.tb 0 (.row q (lnJ l q)), Sb (l.getD i jbD).name], hout := [], ret := bl e, σ := [(0, some 1)] })]⟩ (told1 _ (by rw [hP]; exact (calls_cons (HCT.out) calls_nil))) rfl ?_ ?_; rotate_left 1)
                          · cases e with
                            | true =>
                              have hon := HON.out rfl
                              have hne := HSFF.out rfl hq2
                              have hgq := HGQ.out
                              rw [if_neg hne] at hgq
                              have hgi := HGI.out
                              have hval : (if ((1 + x : Nat) : Int) < 1 + ((W.getD q 0 : Nat) : Int) then 1 + ((W.getD q 0 : Nat) : Int) else ((1 + x : Nat) : Int)) = ((1 + max x (W.getD q 0) : Nat) : Int) := by split <;> omega
                              have hset : (toI (W.set i (1 + x))).set i ((1 + max x (W.getD q 0) : Nat) : Int) = toI (W.set i (1 + mxF (wF W) (edJ l i) (q + 1))) := by
                                rw [toI_set, hon, List.set_set]
                              have HSET := Lib.hid hset
                              have HVAL := Lib.hid hval
                              clear hset hval hon HON HOFF HGI HGQ hne
                              repeat first | refine lwp_seq fun K hK => ?_ | (with_reducible refine gA ?_; apply_assumption -exfalso -symm) | refine Stp.h ?_ | refine gF rfl ?_ | refine gG rfl ?_
                              refine lwp_condS hC rfl sd ?_ ?_ <;> intro hb
                              · clear hb
                                repeat first | refine lwp_seq fun K hK => ?_ | (with_reducible refine gA ?_; apply_assumption -exfalso -symm) | refine Stp.h ?_ | refine gF rfl ?_ | refine gG rfl ?_
                                (refine lwp_drawn hC (by rw [hP]; exact mixed) ⟨[], [], []⟩ (told0 _ _) [0, 0, 0, 0, 12, 28, 0, 0, 192, 448, 960, 2044, 4095, 8191] 12 rfl ?_ ?_; rotate_left 1)
                                · rw [hii, hqq, hgi, hgq, HVAL.out, HSET.out]
                                  repeat first | refine lwp_seq fun K hK => ?_ | (with_reducible refine gA ?_; apply_assumption -exfalso -symm) | refine Stp.h ?_ | refine gF rfl ?_ | refine gG rfl ?_ | refine gM hC rfl sd ?_
                                  refine gA ⟨q + 1, ?_, ?_, sub_intro hm [(0, some 0), (1, some 1), (2, some 2), (3, some 3), (4, some 4), (5, some 5), (6, some 6)] rfl ?_⟩
                                  · omega
                                  · omega
                                  · exact sd
                                · rw [hii, hqq, hgq]
                                  exact sd
                              · simp at hb
                            | false =>
                              have hoff := HOFF.out rfl
                              have HO := Lib.hid hoff
                              clear hoff HON HOFF HGI HGQ
                              repeat first | refine lwp_seq fun K hK => ?_ | (with_reducible refine gA ?_; apply_assumption -exfalso -symm) | refine Stp.h ?_ | refine gF rfl ?_ | refine gG rfl ?_
                              refine lwp_condS hC rfl sd ?_ ?_ <;> intro hb
                              · simp at hb
                              · clear hb
                                rw [← HO.out]
                                repeat first | refine lwp_seq fun K hK => ?_ | (with_reducible refine gA ?_; apply_assumption -exfalso -symm) | refine Stp.h ?_ | refine gF rfl ?_ | refine gG rfl ?_ | refine gM hC rfl sd ?_
                                refine gA ⟨q + 1, ?_, ?_, sub_intro hm [(0, some 0), (1, some 1), (2, some 2), (3, some 3), (4, some 4), (5, some 5), (6, some 6)] rfl ?_⟩
                                · omega
                                · omega
                                · exact sd
                          · exact sd
                        · rw [hqq]
                          exact sd
                      · obtain rfl : q = l.length := by omega
                        clear hb
                        have HI1 := Lib.hid (HST.out r i W HW.out hi2)
                        repeat first | refine lwp_seq fun K hK => ?_ | (with_reducible refine gA ?_; apply_assumption -exfalso -symm) | refine Stp.h ?_ | refine gF rfl ?_ | refine gG rfl ?_ | refine gM hC rfl sd ?_
                        refine gA ⟨(i + 1, W.set i (1 + mxF (wF W) (edJ l i) l.length)), ?_, ?_, sub_intro hm [(0, some 0), (1, some 1), (2, some 2), (3, some 3), (4, some 4), (5, some 5)] rfl ?_⟩
                        · exact ⟨hi2, HI1.out⟩
                        · dsimp only; omega
                        · exact sd
                  · rw [hii]
                    exact sd
                · rw [hii]
                  exact sd
              · obtain rfl : i = l.length := by omega
                clear hb
                have HI2 := Lib.hid (inV_round HW.out)
                repeat first | refine lwp_seq fun K hK => ?_ | (with_reducible refine gA ?_; apply_assumption -exfalso -symm) | refine Stp.h ?_ | refine gF rfl ?_ | refine gG rfl ?_ | refine gM hC rfl sd ?_
                refine gA ⟨(r + 1, W), ?_, ?_, sub_intro hm [(0, some 0), (1, some 1), (2, some 2), (3, some 3), (4, some 4), (5, some 5)] rfl ?_⟩
                · exact ⟨hr2, HI2.out⟩
                · dsimp only; omega
                · exact sd
          · obtain rfl : r = l.length := by omega
            clear hb
            rw [inV_end HV.out]
            clear HV HST HSF
            repeat first | refine lwp_seq fun K hK => ?_ | (with_reducible refine gA ?_; apply_assumption -exfalso -symm) | refine Stp.h ?_ | refine gF rfl ?_ | refine gG rfl ?_ | refine gM hC rfl sd ?_
            (refine lwp_drawn hC (by rw [hP]; exact mixed) ⟨[], [], [(2, { f := 61, hin := [(0, .ro l.length 1 (.ints .i64 (toI (mJ l))))], args := [.sl 0 l.length], hout := [], ret := i64 (mxV (mJ l) l.length : Nat), σ := [(0, some 4)] }), (3, { f := 75, hin := [(0, .ro l.length 1 (.ints .i64 (toI (mJ l))))], args := [.sl 0 l.length, i64 (mxV (mJ l) l.length : Nat)], hout := [], ret := i64 (a0 : Int), σ := [(0, some 4)] })]⟩ (told1 _ (by rw [hP]; exact (calls_cons (HMX.out) (calls_cons (HIX.out) calls_nil)))) [0, 0, 2, 7, 15] 3 rfl ?_ ?_; rotate_left 1)
            · clear HMX HIX
              have ha00 : ((a0 : Int)).toNat = a0 := Int.toNat_natCast a0
              have hone := strC_one (l.getD a0 jbD).name
              repeat first | refine lwp_seq fun K hK => ?_ | (with_reducible refine gA ?_; apply_assumption -exfalso -symm) | refine Stp.h ?_ | refine gF rfl ?_ | refine gG rfl ?_
              (refine lwp_region hC ⟨[], [], []⟩ (told0 _ _) rfl ?_ ?_; rotate_left 1)
              · rw [ha00]
                repeat first | refine lwp_seq fun K hK => ?_ | (with_reducible refine gA ?_; apply_assumption -exfalso -symm) | refine Stp.h ?_ | refine gF rfl ?_ | refine gG rfl ?_ | refine gM hC rfl sd ?_
                refine lwp_loop (fun s : Nat × List Nat => ⟨[(10, i64 (s.1 : Int)), (11, .sl 6 (nmsJ l (s.2 ++ [s.1])).length), (1, .ptr 3 0 0 0), (5, .ptr 5 0 0 0)], [(6, .row 9 (nmsJ l (s.2 ++ [s.1])).length 1 (strC (nmsJ l (s.2 ++ [s.1])))), (4, .row 3 l.length 1 (.ints .i64 (toI (mJ l)))), (5, .blk 23 [.sl 4 l.length]), (3, .blk 33 [.sl 0 l.length]), (0, jbCh l 1), (1, fmCh l), (2, kdP)], 7⟩) (fun s => s.1 < l.length ∧ chG l a0 = s.2 ++ chG l s.1 ∧ s.2.length ≤ l.length) (fun s => (mJ l).getD s.1 0) (a0, []) ⟨?_, sub_intro hm [(0, some 0), (1, some 1), (2, some 2), (3, some 3), (4, some 4), (5, some 5), (6, some 6)] rfl ?_⟩ ?_
                · exact ⟨ha0, rfl, Nat.zero_le _⟩
                · exact sd
                · rintro ⟨a, pre⟩ ⟨ha, hch, hpl⟩
                  dsimp only at ha hch hpl ⊢
                  have haa : ((a : Int)).toNat = a := Int.toNat_natCast a
                  have hga := toI_getD (mJ l) a
                  have htl := toI_len (mJ l)
                  have hla := HML.out a
                  have HCH := Lib.hid hch
                  have hnl : (nmsJ l (pre ++ [a])).length = pre.length + 1 := by rw [nmsJ_len]; simp
                  clear hch
                  repeat first | refine lwp_seq fun K hK => ?_ | (with_reducible refine gA ?_; apply_assumption -exfalso -symm) | refine Stp.h ?_ | refine gF rfl ?_ | refine gG rfl ?_
                  (refine lwp_region hC ⟨[], [], []⟩ (told0 _ _) rfl ?_ ?_; rotate_left 1)
                  · rw [haa, hga]
                    repeat first | refine lwp_seq fun K hK => ?_ | (with_reducible refine gA ?_; apply_assumption -exfalso -symm) | refine Stp.h ?_ | refine gF rfl ?_ | refine gG rfl ?_
                    refine lwp_condS hC rfl sd ?_ ?_ <;> intro hb
                    · have hm1 : 1 < (mJ l).getD a 0 := by omega
                      obtain ⟨k, k1, k2, k3, k4⟩ := HNX.out a ha hm1
                      have hkk : ((k : Int)).toNat = k := Int.toNat_natCast k
                      have hi1 := Ix1_s l a [(0, some 0), (1, some 1), (2, some 3), (3, some 7), (4, some 5), (5, some 4)] hl hln ha HFD.out
                      unfold Ix1_i at hi1
                      rw [k2] at hi1
                      have HI1 := Lib.hid hi1
                      have hch2 : chG l a0 = (pre ++ [a]) ++ chG l k := by rw [HCH.out, k3]; simp
                      have HCH2 := Lib.hid hch2
                      have hsn : nmsJ l ((pre ++ [a]) ++ [k]) = nmsJ l (pre ++ [a]) ++ [(l.getD k jbD).name] := by simp [nmsJ]
                      have hcat := strC_snoc (nmsJ l (pre ++ [a])) (l.getD k jbD).name
                      rw [← hsn] at hcat
                      have hnl2 : (nmsJ l ((pre ++ [a]) ++ [k])).length = pre.length + 2 := by rw [nmsJ_len]; simp
                      have hpl2 : pre.length + 1 ≤ l.length := by
                        have h1 := congrArg List.length hch2
                        have h2 := chG_len l a0
                        simp only [List.length_append, List.length_singleton] at h1
                        omega
                      clear hb hi1 hch2 hsn k2 k3 hm1
                      repeat first | refine lwp_seq fun K hK => ?_ | (with_reducible refine gA ?_; apply_assumption -exfalso -symm) | refine Stp.h ?_ | refine gF rfl ?_ | refine gG rfl ?_
                      (refine lwp_region hC ⟨[], [], []⟩ (told0 _ _) rfl ?_ ?_; rotate_left 1)
                      · repeat first | refine lwp_seq fun K hK => ?_ | (with_reducible refine gA ?_; apply_assumption -exfalso -symm) | refine Stp.h ?_ | refine gF rfl ?_ | refine gG rfl ?_
                        (refine lwp_region hC ⟨[], [], [(2, { f := 76, hin := chIn l a, args := [.sl 0 l.length, .fn 77 [] [.ptr 2 0 0 0, .ptr 3 0 0 0, .ptr 4 0 0 0]], hout := [], ret := i64 (k : Int), σ := [(0, some 0), (1, some 1), (2, some 3), (3, some 7), (4, some 5), (5, some 4)] })]⟩ (told1 _ (by rw [hP]; exact (calls_cons (HI1.out) calls_nil))) rfl ?_ ?_; rotate_left 1)
                        · repeat first | refine lwp_seq fun K hK => ?_ | (with_reducible refine gA ?_; apply_assumption -exfalso -symm) | refine Stp.h ?_ | refine gF rfl ?_ | refine gG rfl ?_
                          (refine lwp_region hC ⟨[], [], []⟩ (told0 _ _) rfl ?_ ?_; rotate_left 1)
                          · rw [hkk]
                            repeat first | refine lwp_seq fun K hK => ?_ | (with_reducible refine gA ?_; apply_assumption -exfalso -symm) | refine Stp.h ?_ | refine gF rfl ?_ | refine gG rfl ?_ | refine gM hC rfl sd ?_
                            refine gA ⟨(k, pre ++ [a]), ?_, ?_, sub_intro hm [(0, some 0), (1, some 1), (2, some 2), (3, some 3), (4, some 4), (5, some 5), (6, some 10)] rfl ?_⟩
                            · exact ⟨k1, HCH2.out, by dsimp only; rw [List.length_append]; simpa using hpl2⟩
                            · exact k4
                            · dsimp only
                              exact sd
                          · rw [hkk]
                            exact sd
                        · exact sd
                      · exact sd
                    · have hm1 : (mJ l).getD a 0 = 1 := by
                        have h1 := HPOS.out a ha
                        have h2 := mJ_at l ha
                        omega
                      have hea := HEND.out a ha (by rw [← mJ_at l ha]; exact hm1)
                      have hfin : nmsJ l (chG l a0) = nmsJ l (pre ++ [a]) := by rw [HCH.out]; unfold chG; rw [hea]
                      have HFIN := Lib.hid hfin
                      clear hb hm1 hea hfin
                      repeat first | refine lwp_seq fun K hK => ?_ | (with_reducible refine gA ?_; apply_assumption -exfalso -symm) | refine Stp.h ?_ | refine gF rfl ?_ | refine gG rfl ?_ | refine gM hC rfl sd ?_
                      (refine end_intro (by first | exact .inr rfl | exact .inl rfl) [(3, some 6)] rfl ?_)
                      rw [HFIN.out]
                      exact sd
                  · rw [haa]
                    exact sd
              · rw [ha00]
                exact sd
            · exact sd
    · exact sd
  · have e1 : chR l = [] := if_neg hz
    unfold Chn_i
    rw [e1]
    unfold jobIn Inst.ok; dsimp only; refine spec_of_body (tys := tys) 3 Tryz.func22 (by kernel_rfl) rfl tys_ok rfl (Nat.le_of_ble_eq_true rfl) (fun g i h => by simp only [List.mem_cons, List.not_mem_nil, or_false, Prod.mk.injEq] at h; omega) fun F hP hm hC hrd => ?_; conv => whnf
    repeat first | refine lwp_seq fun K hK => ?_ | (with_reducible refine gA ?_; apply_assumption -exfalso -symm) | refine Stp.h ?_ | refine gF rfl ?_ | refine gG rfl ?_ | refine gM hC rfl sd ?_
    (refine lwp_drawn hC (by rw [hP]; exact mixed) ⟨[], [], [(1, CJb_i l [(0, some 0), (1, some 1), (2, some 2)]), (5, PWhen_i (decide ((l.length : Int) = 0)) 7), (7, PFirst_i [jobsE l, whenS (decide ((l.length : Int) = 0)) 7] [(0, some 4)])]⟩ (told1 _ (by rw [hP]; exact (calls_cons (CJb_s _ _ hl hln) (calls_cons (PWhen_s _ _) (calls_cons (PFirst_s _ _ (by simp)) calls_nil))))) [0, 1, 0, 4, 12, 31, 63, 127, 255] 5 rfl ?_ ?_; rotate_left 1)
    · repeat first | refine lwp_seq fun K hK => ?_ | (with_reducible refine gA ?_; apply_assumption -exfalso -symm) | refine Stp.h ?_ | refine gF rfl ?_ | refine gG rfl ?_ | refine gM hC rfl sd ?_
      refine lwp_condS hC rfl sd ?_ ?_ <;> intro hb
      · repeat first | refine lwp_seq fun K hK => ?_ | (with_reducible refine gA ?_; apply_assumption -exfalso -symm) | refine Stp.h ?_ | refine gF rfl ?_ | refine gG rfl ?_ | refine gM hC rfl sd ?_
        (refine end_intro (by first | exact .inr rfl | exact .inl rfl) [(3, none)] rfl ?_)
        exact sd
      · exact absurd hb hz
    · exact sd

end Go.Proofs.YtlhgddgoblliaaaGreatDoor
