/- Chapter 9: the search for a sequence, the reference's, whole. -/
import Derived.Test.YtlhgddgoblliaaaGreatDoorVu
import Derived.Test.YtlhgddgoblliaaaGreatDoorSX
set_option linter.unusedVariables false
set_option linter.unusedSimpArgs false
namespace Go.Proofs.YtlhgddgoblliaaaGreatDoor
open Go.RowKit Go.Sym

def padD (n : Nat) (p : List Int) : List Int := p ++ List.replicate (n - p.length) (-1)
theorem padD_len {n : Nat} {p : List Int} (h : p.length ≤ n) : (padD n p).length = n := by unfold padD; simp; omega
def rsB (l : List Jb) (H : List Int) (hi : Int) (g : List Int → Option (List Int)) (pre : List Int) (d : Nat) : Option (List Int) := if ckS l H hi (padD l.length (pre ++ [(d : Int)])) pre.length = 0 then g (pre ++ [(d : Int)]) else none
def rsF (l : List Jb) (H : List Int) (hi : Int) (e : Nat) : Nat → List Int → Option (List Int)
  | 0, pre => if csX l H hi pre = 0 then some pre else none
  | r + 1, pre => tryF (rsB l H hi (rsF l H hi e r) pre) e
def rsD (l : List Jb) (H : List Int) (hi : Int) (e r : Nat) (pre : List Int) : List Int := (rsF l H hi e r pre).getD []
def RSs_i (l : List Jb) (H : List Int) (lo hi : Int) (e r : Nat) (pre : List Int) (σ : Ren) : Inst := { f := 69, hin := rcIn l H pre, args := [.sl 0 l.length, .sl 2 H.length, .agg [i64 lo, i64 hi], .sl 3 pre.length, i64 e], hout := [(4, .row 3 (rsD l H hi e r pre).length 1 (.ints .i64 (rsD l H hi e r pre)))], ret := .tup [.sl 4 (rsD l H hi e r pre).length, bl (rsF l H hi e r pre).isSome], σ := σ }
set_option maxRecDepth 20000 in
set_option maxHeartbeats 8000000 in
theorem RSs_step (l : List Jb) (H : List Int) (lo hi : Int) (e : Nat) (hk : Knw l) (hl : l.length ≤ 1000) (hln : ∀ k, lnJ l k ≤ 1000) (hH : H.length ≤ 1000) (he : e ≤ H.length) (r : Nat) (ih : ∀ r', r = r' + 1 → ∀ (q : List Int) (σ : Ren), q.length + (r' + 1) = l.length → (RSs_i l H lo hi e (r' + 1) q σ).ok Tryz.prog) (pre : List Int) (σ : Ren) (hp : pre.length + (r + 1) = l.length) : (RSs_i l H lo hi e (r + 1) pre σ).ok Tryz.prog := by
  have HIH := Lib.hid ih
  clear ih
  have HK := Lib.hid hk
  clear hk
  obtain ⟨g, hg⟩ : ∃ g, rsF l H hi e r = g := ⟨_, rfl⟩
  have hfl : rsF l H hi e (r + 1) pre = tryF (rsB l H hi g pre) e := by rw [← hg]; rfl
  have HFL := Lib.hid hfl
  have HGG := Lib.hid hg
  clear hfl hg
  unfold RSs_i rcIn Inst.ok; dsimp only; refine spec_of_body (tys := tys) 4 Tryz.func69 (by kernel_rfl) rfl tys_ok rfl (Nat.le_of_ble_eq_true rfl) (fun _ _ h => (by cases h)) fun F hP hm hC hrd => ?_; conv => whnf
  repeat first | refine lwp_seq fun K hK => ?_ | (with_reducible refine gA ?_; apply_assumption -exfalso -symm) | refine Stp.h ?_ | refine gF rfl ?_ | refine gG rfl ?_ | refine gM hC rfl sd ?_
  refine lwp_condS hC rfl sd ?_ ?_ <;> intro hb
  · omega
  · clear hb
    repeat first | refine lwp_seq fun K hK => ?_ | (with_reducible refine gA ?_; apply_assumption -exfalso -symm) | refine Stp.h ?_ | refine gF rfl ?_ | refine gG rfl ?_ | refine gM hC rfl sd ?_
    refine lwp_loop (fun d : Nat => ⟨[(12, i64 d), (0, .sl 0 l.length), (1, .sl 2 H.length), (3, .sl 3 pre.length), (4, i64 e), (7, .ptr 4 0 0 0)], [(4, .blk 25 [i64 lo, i64 hi]), (0, jbCh l 1), (1, fmCh l), (2, .ro H.length 1 (.ints .i64 H)), (3, .ro pre.length 1 (.ints .i64 pre))], 5⟩) (fun d => d ≤ e ∧ ∀ i : Nat, i < d → rsB l H hi g pre i = none) (fun d => e - d) 0 ⟨?_, sub_intro hm [(0, some 0), (1, some 1), (2, some 2), (3, some 3), (4, some 4)] rfl ?_⟩ ?_
    · exact ⟨Nat.zero_le _, fun q hq => absurd hq (Nat.not_lt_zero _)⟩
    · exact sd
    · rintro d ⟨hd, hf⟩
      have hdd : ((d : Int)).toNat = d := Int.toNat_natCast d
      have HF := Lib.hid hf
      clear hf
      repeat first | refine lwp_seq fun K hK => ?_ | (with_reducible refine gA ?_; apply_assumption -exfalso -symm) | refine Stp.h ?_ | refine gF rfl ?_ | refine gG rfl ?_ | refine gM hC rfl sd ?_
      refine lwp_condS hC rfl sd ?_ ?_ <;> intro hb
      · have hd2 : d < e := by omega
        clear hb
        repeat first | refine lwp_seq fun K hK => ?_ | (with_reducible refine gA ?_; apply_assumption -exfalso -symm) | refine Stp.h ?_ | refine gF rfl ?_ | refine gG rfl ?_
        (refine lwp_region hC ⟨[], [], []⟩ (told0 _ _) rfl ?_ ?_; rotate_left 1)
        · repeat first | refine lwp_seq fun K hK => ?_ | (with_reducible refine gA ?_; apply_assumption -exfalso -symm) | refine Stp.h ?_ | refine gF rfl ?_ | refine gG rfl ?_ | refine gM hC rfl sd ?_
          have hql : (pre ++ [(d : Int)]).length = pre.length + 1 := by simp
          have hpd : (pre ++ [(d : Int)]) ++ List.replicate r (-1) = padD l.length (pre ++ [(d : Int)]) := by unfold padD; rw [hql]; congr 2; omega
          have hrb : rsB l H hi g pre d = if ckS l H hi (padD l.length (pre ++ [(d : Int)])) pre.length = 0 then g (pre ++ [(d : Int)]) else none := rfl
          have hpl : (padD l.length (pre ++ [(d : Int)])).length = l.length := padD_len (by omega)
          have hdy : dyD (padD l.length (pre ++ [(d : Int)])) pre.length = d := by
            unfold dyD padD
            rw [List.getD_eq_getElem?_getD, List.getElem?_append_left (by omega), List.getElem?_append_right (by omega)]
            simp
          have htk : ((padD l.length (pre ++ [(d : Int)])).drop 0).take (((pre.length : Int) + 1).toNat - 0) = pre ++ [(d : Int)] := by
            rw [List.drop_zero, Nat.sub_zero, show ((pre.length : Int) + 1).toNat = pre.length + 1 by omega]
            unfold padD
            rw [List.take_append_of_le_length (by omega), List.take_of_length_le (by omega)]
          obtain ⟨q, hq⟩ : ∃ q, pre ++ [(d : Int)] = q := ⟨_, rfl⟩
          rw [hq] at hql hpd hrb hpl hdy htk
          have HQ := Lib.hid hq
          obtain ⟨P, hPe⟩ : ∃ P, padD l.length q = P := ⟨_, rfl⟩
          rw [hPe] at hpd hrb hpl hdy htk
          have HPD := Lib.hid hpd
          have HRB := Lib.hid hrb
          have HTK := Lib.hid htk
          clear hpd hrb htk hq hPe
          refine lwp_loop (fun k : Nat => ⟨[(13, .sl 5 (pre.length + 1 + k)), (12, i64 d), (0, .sl 0 l.length), (1, .sl 2 H.length), (3, .sl 3 pre.length), (4, i64 e), (7, .ptr 4 0 0 0)], [(5, .row 3 (pre.length + 1 + k) 1 (.ints .i64 (q ++ List.replicate k (-1)))), (4, .blk 25 [i64 lo, i64 hi]), (0, jbCh l 1), (1, fmCh l), (2, .ro H.length 1 (.ints .i64 H)), (3, .ro pre.length 1 (.ints .i64 pre))], 6⟩) (fun k => k ≤ r) (fun k => r - k) 0 ⟨?_, sub_intro hm [(0, some 0), (1, some 1), (2, some 2), (3, some 3), (4, some 4), (5, some 8)] rfl ?_⟩ ?_
          · exact Nat.zero_le _
          · rw [List.replicate_zero, List.append_nil, ← HQ.out]
            exact sd
          · rintro k hk
            repeat first | refine lwp_seq fun K hK => ?_ | (with_reducible refine gA ?_; apply_assumption -exfalso -symm) | refine Stp.h ?_ | refine gF rfl ?_ | refine gG rfl ?_ | refine gM hC rfl sd ?_
            refine lwp_condS hC rfl sd ?_ ?_ <;> intro hb
            · have hk2 : k < r := by omega
              clear hb
              repeat first | refine lwp_seq fun K hK => ?_ | (with_reducible refine gA ?_; apply_assumption -exfalso -symm) | refine Stp.h ?_ | refine gF rfl ?_ | refine gG rfl ?_
              (refine lwp_region hC ⟨[], [], []⟩ (told0 _ _) rfl ?_ ?_; rotate_left 1)
              · repeat first | refine lwp_seq fun K hK => ?_ | (with_reducible refine gA ?_; apply_assumption -exfalso -symm) | refine Stp.h ?_ | refine gF rfl ?_ | refine gG rfl ?_ | refine gM hC rfl sd ?_
                refine gA ⟨k + 1, ?_, ?_, sub_intro hm [(0, some 0), (1, some 1), (2, some 2), (3, some 3), (4, some 4), (5, some 7)] rfl ?_⟩
                · exact hk2
                · omega
                · rw [List.replicate_succ', ← List.append_assoc]
                  exact sd
              · exact sd
            · obtain rfl : k = r := by omega
              clear hb
              have hn : pre.length + 1 + k = l.length := by omega
              rw [hn, HPD.out]
              have hwr := RWr_s l H lo hi P pre.length [(0, some 0), (1, some 1), (2, some 2), (3, some 5)] HK.out (by omega) hl (hln _) hpl (by rw [hdy]; omega)
              unfold RWr_i at hwr
              have hrb := HRB.out
              obtain ⟨c, hc⟩ : ∃ c, ckS l H hi P pre.length = c := ⟨_, rfl⟩
              rw [hc] at hwr hrb
              have HWR := Lib.hid hwr
              have HRC := Lib.hid hrb
              clear hwr hrb hc
              repeat first | refine lwp_seq fun K hK => ?_ | (with_reducible refine gA ?_; apply_assumption -exfalso -symm) | refine Stp.h ?_ | refine gF rfl ?_ | refine gG rfl ?_ | refine gM hC rfl sd ?_
              (refine lwp_region hC ⟨[], [], [(6, { f := 70, hin := wrIn l H P, args := [.sl 0 l.length, .sl 2 H.length, .agg [i64 lo, i64 hi], .sl 3 l.length, i64 pre.length], hout := [], ret := i64 c, σ := [(0, some 0), (1, some 1), (2, some 2), (3, some 5)] })]⟩ (told1 _ (by rw [hP]; exact (calls_cons (HWR.out) calls_nil))) rfl ?_ ?_; rotate_left 1)
              · repeat first | refine lwp_seq fun K hK => ?_ | (with_reducible refine gA ?_; apply_assumption -exfalso -symm) | refine Stp.h ?_ | refine gF rfl ?_ | refine gG rfl ?_ | refine gM hC rfl sd ?_
                refine lwp_condS hC rfl sd ?_ ?_ <;> intro hb
                · have hno := HRC.out
                  rw [if_neg hb] at hno
                  have HNO := Lib.hid hno
                  clear hb hno
                  repeat first | refine lwp_seq fun K hK => ?_ | (with_reducible refine gA ?_; apply_assumption -exfalso -symm) | refine Stp.h ?_ | refine gF rfl ?_ | refine gG rfl ?_ | refine gM hC rfl sd ?_
                  refine gA ⟨d + 1, ?_, ?_, sub_intro hm [(0, some 0), (1, some 1), (2, some 2), (3, some 3), (4, some 4)] rfl ?_⟩
                  · refine ⟨hd2, fun i hi => ?_⟩
                    by_cases e : i = d
                    · subst e; exact HNO.out
                    · exact HF.out i (by omega)
                  · omega
                  · exact sd
                · have hyes := HRC.out
                  rw [if_pos hb] at hyes
                  have HYES := Lib.hid hyes
                  clear hb hyes
                  repeat first | refine lwp_seq fun K hK => ?_ | (with_reducible refine gA ?_; apply_assumption -exfalso -symm) | refine Stp.h ?_ | refine gF rfl ?_ | refine gG rfl ?_
                  cases k with
                  | zero =>
                    have hgq : g q = if csX l H hi q = 0 then some q else none := by rw [← HGG.out]; rfl
                    have hc := RS0_s l H lo hi q e [(0, some 0), (1, some 1), (2, some 2), (3, some 6)] HK.out hl hln hH (by omega)
                    have HC := Lib.hid hc
                    have hzl : ((pre.length : Int) + 1).toNat = l.length := by omega
                    clear hc
                    (refine X.lwp_drawnX hC (by rw [hP]; exact mixed) ⟨[], [], [(9, RS0_i l H lo hi q e [(0, some 0), (1, some 1), (2, some 2), (3, some 6)])]⟩ (told1 _ (by rw [hP]; exact (calls_cons (HC.out) calls_nil))) [(7, 5)] [0, 0, 0, 0, 0, 16, 48, 120, 0, 511, 1023, 2047, 2047, 4095, 16383] 14 rfl ?_ ?_; rotate_left 1)
                    · rw [HTK.out, hzl]
                      have hyes := HYES.out
                      rw [hgq] at hyes
                      by_cases hx : csX l H hi q = 0
                      · rw [if_pos hx] at hyes
                        have hr := HFL.out
                        rw [tryF_hit hyes HF.out hd2] at hr
                        have e1 : (rsF l H hi e (0 + 1) pre).isSome = true := by rw [hr]; rfl
                        have e2 : rsD l H hi e (0 + 1) pre = q := by unfold rsD; rw [hr]; rfl
                        have hq' : q.length = l.length := by omega
                        have E1 := Lib.hid e1
                        have E2 := Lib.hid e2
                        rw [decide_eq_true hx]
                        clear hr e1 e2 hyes hx hgq
                        repeat first | refine lwp_seq fun K hK => ?_ | (with_reducible refine gA ?_; apply_assumption -exfalso -symm) | refine Stp.h ?_ | refine gF rfl ?_ | refine gG rfl ?_ | refine gM hC rfl sd ?_
                        refine lwp_condS hC rfl sd ?_ ?_ <;> intro hb
                        · clear hb
                          repeat first | refine lwp_seq fun K hK => ?_ | (with_reducible refine gA ?_; apply_assumption -exfalso -symm) | refine Stp.h ?_ | refine gF rfl ?_ | refine gG rfl ?_ | refine gM hC rfl sd ?_
                          (refine end_intro (by first | exact .inr rfl | exact .inl rfl) [(4, some 6)] rfl ?_)
                          rw [E1.out, E2.out, hq']
                          exact sd
                        · simp at hb
                      · rw [if_neg hx] at hyes
                        have HNO := Lib.hid hyes
                        rw [decide_eq_false hx]
                        clear hyes hx hgq
                        repeat first | refine lwp_seq fun K hK => ?_ | (with_reducible refine gA ?_; apply_assumption -exfalso -symm) | refine Stp.h ?_ | refine gF rfl ?_ | refine gG rfl ?_ | refine gM hC rfl sd ?_
                        refine lwp_condS hC rfl sd ?_ ?_ <;> intro hb
                        · simp at hb
                        · clear hb
                          repeat first | refine lwp_seq fun K hK => ?_ | (with_reducible refine gA ?_; apply_assumption -exfalso -symm) | refine Stp.h ?_ | refine gF rfl ?_ | refine gG rfl ?_ | refine gM hC rfl sd ?_
                          refine gA ⟨d + 1, ?_, ?_, sub_intro hm [(0, some 0), (1, some 1), (2, some 2), (3, some 3), (4, some 4)] rfl ?_⟩
                          · refine ⟨hd2, fun i hi => ?_⟩
                            by_cases e : i = d
                            · subst e; exact HNO.out
                            · exact HF.out i (by omega)
                          · omega
                          · exact sd
                    · rw [HTK.out, hzl]
                      exact sd
                  | succ r' =>
                    have hih := HIH.out r' rfl q [(0, some 0), (1, some 1), (2, some 2), (3, some 6)] (by omega)
                    unfold RSs_i rsD at hih
                    rw [HGG.out] at hih
                    have hzl : ((pre.length : Int) + 1).toNat = q.length := by omega
                    have hyes := HYES.out
                    obtain ⟨x, hx⟩ : ∃ x, g q = x := ⟨_, rfl⟩
                    rw [hx] at hih hyes
                    clear hx
                    cases x with
                    | none =>
                      have HI := Lib.hid hih
                      have HNO := Lib.hid hyes
                      clear hih hyes
                      (refine X.lwp_drawnX hC (by rw [hP]; exact mixed) ⟨[], [], [(9, { f := 69, hin := rcIn l H q, args := [.sl 0 l.length, .sl 2 H.length, .agg [i64 lo, i64 hi], .sl 3 q.length, i64 e], hout := [(4, .row 3 ([] : List Int).length 1 (.ints .i64 ([] : List Int)))], ret := .tup [.sl 4 ([] : List Int).length, bl false], σ := [(0, some 0), (1, some 1), (2, some 2), (3, some 6)] })]⟩ (told1 _ (by rw [hP]; exact (calls_cons (HI.out) calls_nil))) [(7, 5)] [0, 0, 0, 0, 0, 16, 48, 120, 0, 511, 1023, 2047, 2047, 4095, 16383] 14 rfl ?_ ?_; rotate_left 1)
                      · repeat first | refine lwp_seq fun K hK => ?_ | (with_reducible refine gA ?_; apply_assumption -exfalso -symm) | refine Stp.h ?_ | refine gF rfl ?_ | refine gG rfl ?_ | refine gM hC rfl sd ?_
                        refine lwp_condS hC rfl sd ?_ ?_ <;> intro hb
                        · simp at hb
                        · clear hb
                          repeat first | refine lwp_seq fun K hK => ?_ | (with_reducible refine gA ?_; apply_assumption -exfalso -symm) | refine Stp.h ?_ | refine gF rfl ?_ | refine gG rfl ?_ | refine gM hC rfl sd ?_
                          refine gA ⟨d + 1, ?_, ?_, sub_intro hm [(0, some 0), (1, some 1), (2, some 2), (3, some 3), (4, some 4)] rfl ?_⟩
                          · refine ⟨hd2, fun i hi => ?_⟩
                            by_cases e : i = d
                            · subst e; exact HNO.out
                            · exact HF.out i (by omega)
                          · omega
                          · exact sd
                      · rw [HTK.out, hzl]
                        exact sd
                    | some y =>
                      have HI := Lib.hid hih
                      have hr := HFL.out
                      rw [tryF_hit hyes HF.out hd2] at hr
                      have e1 : (rsF l H hi e (r' + 1 + 1) pre).isSome = true := by rw [hr]; rfl
                      have e2 : rsD l H hi e (r' + 1 + 1) pre = y := by unfold rsD; rw [hr]; rfl
                      have E1 := Lib.hid e1
                      have E2 := Lib.hid e2
                      clear hih hyes hr e1 e2
                      (refine X.lwp_drawnX hC (by rw [hP]; exact mixed) ⟨[], [], [(9, { f := 69, hin := rcIn l H q, args := [.sl 0 l.length, .sl 2 H.length, .agg [i64 lo, i64 hi], .sl 3 q.length, i64 e], hout := [(4, .row 3 y.length 1 (.ints .i64 y))], ret := .tup [.sl 4 y.length, bl true], σ := [(0, some 0), (1, some 1), (2, some 2), (3, some 6)] })]⟩ (told1 _ (by rw [hP]; exact (calls_cons (HI.out) calls_nil))) [(7, 5)] [0, 0, 0, 0, 0, 16, 48, 120, 0, 511, 1023, 2047, 2047, 4095, 16383] 14 rfl ?_ ?_; rotate_left 1)
                      · repeat first | refine lwp_seq fun K hK => ?_ | (with_reducible refine gA ?_; apply_assumption -exfalso -symm) | refine Stp.h ?_ | refine gF rfl ?_ | refine gG rfl ?_ | refine gM hC rfl sd ?_
                        refine lwp_condS hC rfl sd ?_ ?_ <;> intro hb
                        · clear hb
                          repeat first | refine lwp_seq fun K hK => ?_ | (with_reducible refine gA ?_; apply_assumption -exfalso -symm) | refine Stp.h ?_ | refine gF rfl ?_ | refine gG rfl ?_ | refine gM hC rfl sd ?_
                          (refine end_intro (by first | exact .inr rfl | exact .inl rfl) [(4, some 7)] rfl ?_)
                          rw [E1.out, E2.out]
                          exact sd
                        · simp at hb
                      · rw [HTK.out, hzl]
                        exact sd
              · exact sd
        · exact sd
      · obtain rfl : d = e := by omega
        have hr := HFL.out
        rw [tryF_none HF.out] at hr
        have e1 : (rsF l H hi d (r + 1) pre).isSome = false := by rw [hr]; rfl
        have e2 : rsD l H hi d (r + 1) pre = [] := by unfold rsD; rw [hr]; rfl
        have E1 := Lib.hid e1
        have E2 := Lib.hid e2
        clear hb hr e1 e2
        repeat first | refine lwp_seq fun K hK => ?_ | (with_reducible refine gA ?_; apply_assumption -exfalso -symm) | refine Stp.h ?_ | refine gF rfl ?_ | refine gG rfl ?_ | refine gM hC rfl sd ?_
        (refine end_intro (by first | exact .inr rfl | exact .inl rfl) [(4, none)] rfl ?_)
        rw [E1.out, E2.out]
        exact sd
theorem RSs_s (l : List Jb) (H : List Int) (lo hi : Int) (e : Nat) (hk : Knw l) (hl : l.length ≤ 1000) (hln : ∀ k, lnJ l k ≤ 1000) (hH : H.length ≤ 1000) (he : e ≤ H.length) : ∀ (r : Nat) (pre : List Int) (σ : Ren), pre.length + (r + 1) = l.length → (RSs_i l H lo hi e (r + 1) pre σ).ok Tryz.prog
  | 0, pre, σ, hp => RSs_step l H lo hi e hk hl hln hH he 0 (fun r' h => by cases h) pre σ hp
  | r + 1, pre, σ, hp => RSs_step l H lo hi e hk hl hln hH he (r + 1) (fun r' h q σ' hq => by cases h; exact RSs_s l H lo hi e hk hl hln hH he r q σ' hq) pre σ hp

end Go.Proofs.YtlhgddgoblliaaaGreatDoor
