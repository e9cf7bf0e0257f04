/- Chapter 9: offices: the reference's check, sizes, a copy. -/
import Derived.Test.YtccddhoeampdjaaGreatDoorOa
set_option linter.unusedVariables false
set_option linter.unusedSimpArgs false
namespace Go.Proofs.YtccddhoeampdjaaGreatDoor
open Go.RowKit Go.Sym

theorem memS_snoc (l : List ByteArray) (x s : ByteArray) : memS (l ++ [x]) s = (memS l s || decide (s = x)) := by
  unfold memS; simp
theorem dup_step (a : Int) (l : List ByteArray) (x s : ByteArray) : firstS [firstS [a, whenS (memS l s) 9], whenS (decide (x = s)) 9] = firstS [a, whenS (memS (l ++ [x]) s) 9] := by
  rw [memS_snoc, show decide (x = s) = decide (s = x) from decide_eq_decide.2 eq_comm]
  simp only [firstS, whenS]
  by_cases h1 : a = 0 <;> cases h2 : memS l s <;> by_cases h3 : s = x <;> simp [h1, h3]
theorem five_step (a b c d e f : Int) : firstS [firstS [a, b], c, d, e, f] = firstS [a, b, firstS [c, d, e, f]] := by
  simp only [firstS]
  by_cases h1 : a = 0 <;> by_cases h2 : b = 0 <;> simp [h1, h2]
  split <;> simp_all
theorem shf_two (a : Int) (b : Bool) : (if firstS [a, whenS b 11] = 0 then True else False) = (a = 0 ∧ b = false) := by
  cases b <;> by_cases h : a = 0 <;> simp [firstS, whenS, h]
/-- Names that are not long. -/
def namesB (S : List Sec) : Prop := ∀ k, k < S.length → (S.getD k secD).name.size ≤ 1000000
def ROff_i (S : List Sec) (T : List Shf) (σ : Ren) : Inst := { f := 21, hin := offIn S T, args := [ofA S T], hout := [], ret := i64 (offE S T), σ := σ }
set_option maxRecDepth 20000 in
set_option maxHeartbeats 4000000 in
theorem ROff_s (S : List Sec) (T : List Shf) (σ : Ren) (hS : S.length ≤ 1000000) (hT : T.length ≤ 1000000) (hN : namesB S) : (ROff_i S T σ).ok Tryz.prog := by
  unfold ROff_i Inst.ok; dsimp only; refine spec_of_body (tys := tys) 2 Tryz.func21 (by kernel_rfl) rfl tys_ok rfl (Nat.le_of_ble_eq_true rfl) (fun _ _ h => (by cases h)) fun F hP hm hC hrd => ?_; conv => whnf
  repeat first | refine lwp_seq fun K hK => ?_ | (with_reducible refine gA ?_; apply_assumption -exfalso -symm) | refine Stp.h ?_ | refine gF rfl ?_ | refine gG rfl ?_ | refine gM hC rfl sd ?_
  have hM : (bif decide ((S.length : Int) > 7) then true else decide ((T.length : Int) > 5)) = decide (manyO S T ≠ 0) := by
    unfold manyO
    by_cases h1 : (S.length : Int) > 7 <;> by_cases h2 : (T.length : Int) > 5 <;> simp [h1, h2, firstS, whenS]
  refine lwp_condS hC rfl sd ?_ ?_ <;> intro hb
  · have hb : (bif decide ((S.length : Int) > 7) then true else decide ((T.length : Int) > 5)) = true := hb
    have e : offE S T = 5 := by
      unfold offE manyO
      by_cases h1 : (S.length : Int) > 7 <;> by_cases h2 : (T.length : Int) > 5 <;> simp [h1, h2, firstS, whenS] at hb ⊢
    repeat first | refine lwp_seq fun K hK => ?_ | (with_reducible refine gA ?_; apply_assumption -exfalso -symm) | refine Stp.h ?_ | refine gF rfl ?_ | refine gG rfl ?_ | refine gM hC rfl sd ?_
    (refine end_intro (by first | exact .inr rfl | exact .inl rfl) [] rfl ?_)
    rw [e]
    exact ⟨rfl, trivial⟩
  · have hb : (bif decide ((S.length : Int) > 7) then true else decide ((T.length : Int) > 5)) = false := hb
    rw [hM] at hb
    have hb := of_decide_eq_false hb
    have e : offE S T = firstS [secsS S, shfsS T] := by
      unfold offE; simp only [firstS, if_pos (show manyO S T = 0 by simpa using hb)]
    have E := Lib.hid e
    clear hb e hM
    repeat first | refine lwp_seq fun K hK => ?_ | (with_reducible refine gA ?_; apply_assumption -exfalso -symm) | refine Stp.h ?_ | refine gF rfl ?_ | refine gG rfl ?_ | refine gM hC rfl sd ?_
    refine lwp_loop (fun k : Nat => ⟨[(3, i64 k), (1, .ptr 2 0 0 0)], [(2, .blk 25 [.sl 0 S.length, .sl 1 T.length]), (0, .ro S.length 5 (secC S)), (1, .ro T.length 4 (shfC T))], 3⟩) (fun k => k ≤ S.length ∧ secsS S = firstS (((List.range S.length).map (secAt S)).drop k)) (fun k => S.length - k) 0 ⟨?_, sub_intro hm [(0, some 0), (1, some 1), (2, some 2)] rfl ?_⟩ ?_
    · exact ⟨Nat.zero_le _, rfl⟩
    · exact sd
    · rintro k ⟨hk, hf⟩
      have hkk : ((k : Int)).toNat = k := Int.toNat_natCast k
      have HF := Lib.hid hf
      clear hf
      repeat first | refine lwp_seq fun K hK => ?_ | (with_reducible refine gA ?_; apply_assumption -exfalso -symm) | refine Stp.h ?_ | refine gF rfl ?_ | refine gG rfl ?_ | refine gM hC rfl sd ?_
      refine lwp_condS hC rfl sd ?_ ?_ <;> intro hb
      · have hk2 : k < S.length := by omega
        have hn := hN k hk2
        repeat first | refine lwp_seq fun K hK => ?_ | (with_reducible refine gA ?_; apply_assumption -exfalso -symm) | refine Stp.h ?_ | refine gF rfl ?_ | refine gG rfl ?_ | refine gM hC rfl sd ?_
        rw [hkk]
        (refine lwp_region hC ⟨[], [], [(2, CheckName_i (S.getD k secD).name)]⟩ (told1 _ (by rw [hP]; exact (calls_cons (CheckName_s _ hn) calls_nil))) rfl ?_ ?_; rotate_left 1)
        · repeat first | refine lwp_seq fun K hK => ?_ | (with_reducible refine gA ?_; apply_assumption -exfalso -symm) | refine Stp.h ?_ | refine gF rfl ?_ | refine gG rfl ?_ | refine gM hC rfl sd ?_
          refine lwp_loop (fun j : Nat => ⟨[(6, i64 j), (3, i64 k), (1, .ptr 2 0 0 0), (4, .ptr 3 0 0 0), (5, i64 (firstS [whenS (!nameOk (S.getD k secD).name) 8, whenS (memS ((S.take j).map (·.name)) (S.getD k secD).name) 9]))], [(3, .blk 130 [.lit (.string (S.getD k secD).name), i64 (S.getD k secD).dl, i64 (S.getD k secD).wk, i64 (S.getD k secD).bl, i64 (S.getD k secD).vl]), (2, .blk 25 [.sl 0 S.length, .sl 1 T.length]), (0, .ro S.length 5 (secC S)), (1, .ro T.length 4 (shfC T))], 4⟩) (fun j => j ≤ k) (fun j => k - j) 0 ⟨?_, sub_intro hm [(0, some 0), (1, some 1), (2, some 2), (3, some 3)] rfl ?_⟩ ?_
          · exact Nat.zero_le _
          · have e0 : whenS (!nameOk (S.getD k secD).name) 8 = firstS [whenS (!nameOk (S.getD k secD).name) 8, whenS (memS ((S.take 0).map (·.name)) (S.getD k secD).name) 9] := by
              cases nameOk (S.getD k secD).name <;> rfl
            exact sd
          · rintro j hj
            have hjj : ((j : Int)).toNat = j := Int.toNat_natCast j
            repeat first | refine lwp_seq fun K hK => ?_ | (with_reducible refine gA ?_; apply_assumption -exfalso -symm) | refine Stp.h ?_ | refine gF rfl ?_ | refine gG rfl ?_ | refine gM hC rfl sd ?_
            refine lwp_condS hC rfl sd ?_ ?_ <;> intro hb
            · have hj2 : j < S.length := by omega
              repeat first | refine lwp_seq fun K hK => ?_ | (with_reducible refine gA ?_; apply_assumption -exfalso -symm) | refine Stp.h ?_ | refine gF rfl ?_ | refine gG rfl ?_ | refine gM hC rfl ⟨⟩ ?_
              (refine lwp_drawn hC (by rw [hP]; exact mixed) ⟨[], [], [(10, When_i (decide ((S.getD j secD).name = (S.getD k secD).name)) 9), (12, First_i [firstS [whenS (!nameOk (S.getD k secD).name) 8, whenS (memS ((S.take j).map (·.name)) (S.getD k secD).name) 9], whenS (decide ((S.getD j secD).name = (S.getD k secD).name)) 9] [(0, some 4)])]⟩ (told1 _ (by rw [hP]; exact (calls_cons (When_s _ _) (calls_cons (First_s _ _ (by simp)) calls_nil)))) [0, 0, 2, 0, 14, 30, 62, 0, 128, 510, 1022, 2047, 4095, 8191] 11 rfl ?_ ?_; rotate_left 1)
              · rw [dup_step]
                repeat first | refine lwp_seq fun K hK => ?_ | (with_reducible refine gA ?_; apply_assumption -exfalso -symm) | refine Stp.h ?_ | refine gF rfl ?_ | refine gG rfl ?_ | refine gM hC rfl sd ?_
                refine gA ⟨j + 1, ?_, ?_, sub_intro hm [(0, some 0), (1, some 1), (2, some 2), (3, some 3)] rfl ?_⟩
                · omega
                · omega
                · have e1 : (S.take (j + 1)).map (·.name) = (S.take j).map (·.name) ++ [(S.getD j secD).name] := by rw [take_snoc S secD j hj2]; simp
                  rw [e1]
                  exact sd
              · rw [hjj]
                exact sd
            · obtain rfl : j = k := by omega
              clear hb hj
              repeat first | refine lwp_seq fun K hK => ?_ | (with_reducible refine gA ?_; apply_assumption -exfalso -symm) | refine Stp.h ?_ | refine gF rfl ?_ | refine gG rfl ?_ | refine gM hC rfl sd ?_
              (refine lwp_drawn hC (by rw [hP]; exact mixed) ⟨[], [], [(3, CheckRange_i (S.getD j secD).dl 0 100000), (6, CheckRange_i (S.getD j secD).wk 1 1000), (9, CheckRange_i (S.getD j secD).bl 0 10000), (12, CheckRange_i (S.getD j secD).vl 0 1000000), (14, First_i [firstS [whenS (!nameOk (S.getD j secD).name) 8, whenS (memS ((S.take j).map (·.name)) (S.getD j secD).name) 9], withinS (S.getD j secD).dl 0 100000, withinS (S.getD j secD).wk 1 1000, withinS (S.getD j secD).bl 0 10000, withinS (S.getD j secD).vl 0 1000000] [(0, some 4)])]⟩ (told1 _ (by rw [hP]; exact (calls_cons (CheckRange_s _ _ _) (calls_cons (CheckRange_s _ _ _) (calls_cons (CheckRange_s _ _ _) (calls_cons (CheckRange_s _ _ _) (calls_cons (First_s _ _ (by simp)) calls_nil))))))) [0, 0, 2, 6, 0, 16, 62, 0, 128, 510, 0, 1024, 4094, 8191, 16383, 32767] 13 rfl ?_ ?_; rotate_left 1)
              · rw [five_step]
                repeat first | refine lwp_seq fun K hK => ?_ | (with_reducible refine gA ?_; apply_assumption -exfalso -symm) | refine Stp.h ?_ | refine gF rfl ?_ | refine gG rfl ?_ | refine gM hC rfl sd ?_
                refine lwp_condS hC rfl sd ?_ ?_ <;> intro hb
                · have hf := HF.out
                  rw [firstR_drop _ _ _ hk2, if_neg (show ¬ secAt S j = 0 from hb)] at hf
                  have e2 : offE S T = secAt S j := by
                    rw [E.out, hf]; simp only [firstS, if_neg (show ¬ secAt S j = 0 from hb)]
                  have HE := Lib.hid e2
                  clear e2 hf HF E
                  repeat first | refine lwp_seq fun K hK => ?_ | (with_reducible refine gA ?_; apply_assumption -exfalso -symm) | refine Stp.h ?_ | refine gF rfl ?_ | refine gG rfl ?_ | refine gM hC rfl sd ?_
                  (refine end_intro (by first | exact .inr rfl | exact .inl rfl) [] rfl ?_)
                  rw [HE.out]
                  exact ⟨rfl, trivial⟩
                · have hf := HF.out
                  rw [firstR_drop _ _ _ hk2, if_pos (show secAt S j = 0 from hb)] at hf
                  have HG := Lib.hid hf
                  clear hb hf HF
                  repeat first | refine lwp_seq fun K hK => ?_ | (with_reducible refine gA ?_; apply_assumption -exfalso -symm) | refine Stp.h ?_ | refine gF rfl ?_ | refine gG rfl ?_ | refine gM hC rfl sd ?_
                  refine gA ⟨j + 1, ?_, ?_, sub_intro hm [(0, some 0), (1, some 1), (2, some 2)] rfl ?_⟩
                  · exact ⟨by omega, HG.out⟩
                  · omega
                  · exact sd
              · exact sd
        · exact sd
      · obtain rfl : k = S.length := by omega
        have hf := HF.out
        rw [firstR_all] at hf
        have e := E.out
        rw [hf] at e
        have e : offE S T = shfsS T := by rw [e]; simp only [firstS, if_true]; split <;> simp_all
        have E2 := Lib.hid e
        clear hb hf e E HF hkk
        repeat first | refine lwp_seq fun K hK => ?_ | (with_reducible refine gA ?_; apply_assumption -exfalso -symm) | refine Stp.h ?_ | refine gF rfl ?_ | refine gG rfl ?_ | refine gM hC rfl sd ?_
        refine lwp_loop (fun k : Nat => ⟨[(7, i64 k), (1, .ptr 2 0 0 0)], [(2, .blk 25 [.sl 0 S.length, .sl 1 T.length]), (0, .ro S.length 5 (secC S)), (1, .ro T.length 4 (shfC T))], 3⟩) (fun k => k ≤ T.length ∧ shfsS T = firstS (((List.range T.length).map (shfAt T)).drop k)) (fun k => T.length - k) 0 ⟨?_, sub_intro hm [(0, some 0), (1, some 1), (2, some 2)] rfl ?_⟩ ?_
        · exact ⟨Nat.zero_le _, rfl⟩
        · exact sd
        · clear hk
          rintro k ⟨hk, hf⟩
          have HF := Lib.hid hf
          clear hf
          have hkk : ((k : Int)).toNat = k := Int.toNat_natCast k
          have hix : ((k : Int) - 1).toNat = k - 1 := by omega
          repeat first | refine lwp_seq fun K hK => ?_ | (with_reducible refine gA ?_; apply_assumption -exfalso -symm) | refine Stp.h ?_ | refine gF rfl ?_ | refine gG rfl ?_ | refine gM hC rfl sd ?_
          refine lwp_condS hC rfl sd ?_ ?_ <;> intro hb
          · have hk2 : k < T.length := by omega
            repeat first | refine lwp_seq fun K hK => ?_ | (with_reducible refine gA ?_; apply_assumption -exfalso -symm) | refine Stp.h ?_ | refine gF rfl ?_ | refine gG rfl ?_ | refine gM hC rfl sd ?_
            rw [hkk]
            (refine lwp_drawn hC (by rw [hP]; exact mixed) ⟨[], [], [(2, CheckRange_i (T.getD k shfD).day 0 100000), (5, CheckRange_i (T.getD k shfD).hr 0 1000), (8, CheckRange_i (T.getD k shfD).bl 0 10000), (11, CheckRange_i (T.getD k shfD).rt 0 1000), (13, First_i [withinS (T.getD k shfD).day 0 100000, withinS (T.getD k shfD).hr 0 1000, withinS (T.getD k shfD).bl 0 10000, withinS (T.getD k shfD).rt 0 1000] [(0, some 5)])]⟩ (told1 _ (by rw [hP]; exact (calls_cons (CheckRange_s _ _ _) (calls_cons (CheckRange_s _ _ _) (calls_cons (CheckRange_s _ _ _) (calls_cons (CheckRange_s _ _ _) (calls_cons (First_s _ _ (by simp)) calls_nil))))))) [0, 1, 3, 0, 8, 31, 0, 64, 255, 0, 512, 2047, 4095, 8191, 16383] 11 rfl ?_ ?_; rotate_left 1)
            · repeat first | refine lwp_seq fun K hK => ?_ | (with_reducible refine gA ?_; apply_assumption -exfalso -symm) | refine Stp.h ?_ | refine gF rfl ?_ | refine gG rfl ?_ | refine gM hC rfl sd ?_
              refine lwp_condS hC rfl sd ?_ ?_ <;> intro hb
              · have hne : ¬ shfE (T.getD k shfD) = 0 := hb
                have e3 : shfAt T k = shfE (T.getD k shfD) := by unfold shfAt; simp only [firstS, if_neg hne]
                have hf := HF.out
                rw [firstR_drop _ _ _ hk2, e3, if_neg hne, ← E2.out] at hf
                have HE := Lib.hid hf
                clear hf HF E2 e3
                repeat first | refine lwp_seq fun K hK => ?_ | (with_reducible refine gA ?_; apply_assumption -exfalso -symm) | refine Stp.h ?_ | refine gF rfl ?_ | refine gG rfl ?_ | refine gM hC rfl sd ?_
                (refine end_intro (by first | exact .inr rfl | exact .inl rfl) [] rfl ?_)
                rw [HE.out]
                exact ⟨rfl, trivial⟩
              · have h0 : shfE (T.getD k shfD) = 0 := hb
                clear hb
                repeat first | refine lwp_seq fun K hK => ?_ | (with_reducible refine gA ?_; apply_assumption -exfalso -symm) | refine Stp.h ?_ | refine gF rfl ?_ | refine gG rfl ?_ | refine gM hC rfl ⟨⟩ ?_
                (refine lwp_drawn hC (by rw [hP]; exact mixed) ⟨[], [], []⟩ (told0 _ _) [0, 1, 3, 7, 15, 7, 39, 7, 135, 487, 999, 2023, 4095, 8191] 12 rfl ?_ ?_; rotate_left 1)
                · rw [hix]
                  have hL : (bif decide ((k : Int) > 0) then decide ((T.getD k shfD).day < (T.getD (k - 1) shfD).day) else false) = lastDay T k := rfl
                  rw [hL]
                  repeat first | refine lwp_seq fun K hK => ?_ | (with_reducible refine gA ?_; apply_assumption -exfalso -symm) | refine Stp.h ?_ | refine gF rfl ?_ | refine gG rfl ?_ | refine gM hC rfl ⟨⟩ ?_
                  refine lwp_condS hC rfl sd ?_ ?_ <;> intro hb
                  · have e3 : shfAt T k = 11 := by unfold shfAt; rw [h0, hb]; rfl
                    have hf := HF.out
                    rw [firstR_drop _ _ _ hk2, e3, if_neg (by decide), ← E2.out] at hf
                    have HE := Lib.hid hf
                    clear hf HF E2 e3
                    repeat first | refine lwp_seq fun K hK => ?_ | (with_reducible refine gA ?_; apply_assumption -exfalso -symm) | refine Stp.h ?_ | refine gF rfl ?_ | refine gG rfl ?_ | refine gM hC rfl sd ?_
                    (refine end_intro (by first | exact .inr rfl | exact .inl rfl) [] rfl ?_)
                    rw [HE.out]
                    exact ⟨rfl, trivial⟩
                  · have e3 : shfAt T k = 0 := by unfold shfAt; rw [h0, hb]; rfl
                    have hf := HF.out
                    rw [firstR_drop _ _ _ hk2, if_pos e3] at hf
                    have HG := Lib.hid hf
                    clear hf HF e3
                    repeat first | refine lwp_seq fun K hK => ?_ | (with_reducible refine gA ?_; apply_assumption -exfalso -symm) | refine Stp.h ?_ | refine gF rfl ?_ | refine gG rfl ?_ | refine gM hC rfl sd ?_
                    refine gA ⟨k + 1, ?_, ?_, sub_intro hm [(0, some 0), (1, some 1), (2, some 2)] rfl ?_⟩
                    · exact ⟨by omega, HG.out⟩
                    · omega
                    · exact sd
                · rw [hix]
                  exact sd
            · exact sd
          · obtain rfl : k = T.length := by omega
            have hf := HF.out
            rw [firstR_all, ← E2.out] at hf
            have HE := Lib.hid hf
            clear hf HF
            repeat first | refine lwp_seq fun K hK => ?_ | (with_reducible refine gA ?_; apply_assumption -exfalso -symm) | refine Stp.h ?_ | refine gF rfl ?_ | refine gG rfl ?_ | refine gM hC rfl sd ?_
            (refine end_intro (by first | exact .inr rfl | exact .inl rfl) [] rfl ?_)
            rw [HE.out]
            exact ⟨rfl, trivial⟩

end Go.Proofs.YtccddhoeampdjaaGreatDoor
