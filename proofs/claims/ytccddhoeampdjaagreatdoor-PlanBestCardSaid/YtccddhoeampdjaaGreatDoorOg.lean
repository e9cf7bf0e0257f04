/- Chapter 9: plans: the reference's sums and checks. -/
import Derived.Test.YtccddhoeampdjaaGreatDoorOf
set_option linter.unusedVariables false
set_option linter.unusedSimpArgs false
namespace Go.Proofs.YtccddhoeampdjaaGreatDoor
open Go.RowKit Go.Sym

def RLeft_i (S : List Sec) (T : List Shf) (P : List Int) (σ : Ren) : Inst := { f := 34, hin := planIn S T P, args := [ofA S T, .sl 2 P.length], hout := [(3, .row 161 T.length 2 (p2C (leftsL S T P T.length)))], ret := .sl 3 T.length, σ := σ }
set_option maxRecDepth 20000 in
set_option maxHeartbeats 4000000 in
theorem RLeft_s (S : List Sec) (T : List Shf) (P : List Int) (σ : Ren) (hB : OffB S T) (hPl : P.length ≤ S.length) : (RLeft_i S T P σ).ok Tryz.prog := by
  have hP7 := Nat.le_trans hPl hB.lS
  have hT5 := hB.lT
  have HB := Lib.hid hB
  clear hB
  unfold RLeft_i Inst.ok; dsimp only; refine spec_of_body (tys := tys) 3 Tryz.func34 (by kernel_rfl) rfl tys_ok rfl (Nat.le_of_ble_eq_true rfl) (fun _ _ h => (by cases h)) fun F hP hm hC hrd => ?_; conv => whnf
  repeat first | refine lwp_seq fun K hK => ?_ | (with_reducible refine gA ?_; apply_assumption -exfalso -symm) | refine Stp.h ?_ | refine gF rfl ?_ | refine gG rfl ?_ | refine gM hC rfl sd ?_
  refine lwp_loop (fun k : Nat => ⟨[(6, i64 k), (1, .sl 2 P.length), (2, .ptr 3 0 0 0), (5, .sl 4 k)], [(4, .row 161 k 2 (p2C (leftsL S T P k))), (3, .blk 25 [.sl 0 S.length, .sl 1 T.length]), (0, .ro S.length 5 (secC S)), (1, .ro T.length 4 (shfC T)), (2, .ro P.length 1 (.ints .i64 P))], 5⟩) (fun k => k ≤ T.length) (fun k => T.length - k) 0 ⟨?_, sub_intro hm [(0, some 0), (1, some 1), (2, some 2), (3, some 3), (4, none)] rfl ?_⟩ ?_
  · exact Nat.zero_le _
  · exact sd
  · rintro k hk
    have hkk : ((k : Int)).toNat = k := Int.toNat_natCast k
    repeat first | refine lwp_seq fun K hK => ?_ | (with_reducible refine gA ?_; apply_assumption -exfalso -symm) | refine Stp.h ?_ | refine gF rfl ?_ | refine gG rfl ?_ | refine gM hC rfl sd ?_
    refine lwp_condS hC rfl sd ?_ ?_ <;> intro hb
    · have hk2 : k < T.length := by omega
      repeat first | refine lwp_seq fun K hK => ?_ | (with_reducible refine gA ?_; apply_assumption -exfalso -symm) | refine Stp.h ?_ | refine gF rfl ?_ | refine gG rfl ?_ | refine gM hC rfl ⟨⟩ ?_
      (refine lwp_drawn hC (by rw [hP]; exact mixed) ⟨[], [], []⟩ (told0 _ _) [0, 1, 0, 7, 15, 31, 0, 64, 0, 448, 960, 1984, 4095, 0, 16383] 14 rfl ?_ ?_; rotate_left 1)
      · rw [hkk]
        repeat first | refine lwp_seq fun K hK => ?_ | (with_reducible refine gA ?_; apply_assumption -exfalso -symm) | refine Stp.h ?_ | refine gF rfl ?_ | refine gG rfl ?_ | refine gM hC rfl sd ?_
        refine lwp_loop (fun n : Nat => ⟨[(8, i64 n), (6, i64 k), (1, .sl 2 P.length), (2, .ptr 3 0 0 0), (5, .sl 4 k), (7, .ptr 5 0 0 0)], [(5, .blk 161 [i64 (leftH S T P k n), i64 (leftT S T P k n)]), (4, .row 161 k 2 (p2C (leftsL S T P k))), (3, .blk 25 [.sl 0 S.length, .sl 1 T.length]), (0, .ro S.length 5 (secC S)), (1, .ro T.length 4 (shfC T)), (2, .ro P.length 1 (.ints .i64 P))], 6⟩) (fun n => n ≤ P.length) (fun n => P.length - n) 0 ⟨?_, sub_intro hm [(0, some 0), (1, some 1), (2, some 2), (3, some 3), (4, some 4), (5, some 5)] rfl ?_⟩ ?_
        · exact Nat.zero_le _
        · have e1 : leftH S T P k 0 = (T.getD k shfD).hr := by unfold leftH useL; omega
          have e2 : leftT S T P k 0 = (T.getD k shfD).bl := by unfold leftT useL; omega
          rw [e1, e2]
          exact sd
        · rintro n hn
          have hnn : ((n : Int)).toNat = n := Int.toNat_natCast n
          repeat first | refine lwp_seq fun K hK => ?_ | (with_reducible refine gA ?_; apply_assumption -exfalso -symm) | refine Stp.h ?_ | refine gF rfl ?_ | refine gG rfl ?_ | refine gM hC rfl sd ?_
          refine lwp_condS hC rfl sd ?_ ?_ <;> intro hb
          · have hi := left_in (P := P) (k := k) (n := n) HB.out (by omega)
            have hw := HB.out.wk n
            have hb2 := HB.out.sbl n
            have hnP : n < P.length := by omega
            have hnS : n < S.length := by omega
            repeat first | refine lwp_seq fun K hK => ?_ | (with_reducible refine gA ?_; apply_assumption -exfalso -symm) | refine Stp.h ?_ | refine gF rfl ?_ | refine gG rfl ?_ | refine gM hC rfl sd ?_
            rw [hnn]
            refine lwp_condS hC rfl sd ?_ ?_ <;> intro hb
            · have e1 : leftH S T P k (n + 1) = leftH S T P k n - (S.getD n secD).wk := by unfold leftH; simp only [useL, if_pos hb]; omega
              have e2 : leftT S T P k (n + 1) = leftT S T P k n - (S.getD n secD).bl := by unfold leftT; simp only [useL, if_pos hb]; omega
              repeat first | refine lwp_seq fun K hK => ?_ | (with_reducible refine gA ?_; apply_assumption -exfalso -symm) | refine Stp.h ?_ | refine gF rfl ?_ | refine gG rfl ?_ | refine gM hC rfl ⟨⟩ ?_
              (refine lwp_drawn2 hC (by rw [hP]; exact mixed) ⟨[], [], []⟩ (told0 _ _) [0, 1, 0, 4, 0, 28, 60, 124, 255, 0, 512, 0, 2048, 0, 14336, 30720, 63488, 130560, 2047, 264191, 1048575, 2097151] 19 260096 rfl ?_ ?_; rotate_left 1)
              · rw [hnn]
                repeat first | refine lwp_seq fun K hK => ?_ | (with_reducible refine gA ?_; apply_assumption -exfalso -symm) | refine Stp.h ?_ | refine gF rfl ?_ | refine gG rfl ?_ | refine gM hC rfl sd ?_
                refine gA ⟨n + 1, ?_, ?_, sub_intro hm [(0, some 0), (1, some 1), (2, some 2), (3, some 3), (4, some 4), (5, some 5)] rfl ?_⟩
                · omega
                · omega
                · rw [e1, e2]
                  exact sd
              · rw [hnn]
                exact sd
            · have e1 : leftH S T P k (n + 1) = leftH S T P k n := by unfold leftH; simp only [useL, if_neg hb]; omega
              have e2 : leftT S T P k (n + 1) = leftT S T P k n := by unfold leftT; simp only [useL, if_neg hb]; omega
              repeat first | refine lwp_seq fun K hK => ?_ | (with_reducible refine gA ?_; apply_assumption -exfalso -symm) | refine Stp.h ?_ | refine gF rfl ?_ | refine gG rfl ?_ | refine gM hC rfl sd ?_
              refine gA ⟨n + 1, ?_, ?_, sub_intro hm [(0, some 0), (1, some 1), (2, some 2), (3, some 3), (4, some 4), (5, some 5)] rfl ?_⟩
              · omega
              · omega
              · rw [e1, e2]
                exact sd
          · obtain rfl : n = P.length := by omega
            clear hb hn hnn
            repeat first | refine lwp_seq fun K hK => ?_ | (with_reducible refine gA ?_; apply_assumption -exfalso -symm) | refine Stp.h ?_ | refine gF rfl ?_ | refine gG rfl ?_ | refine gM hC rfl sd ?_
            refine gA ⟨k + 1, ?_, ?_, sub_intro hm [(0, some 0), (1, some 1), (2, some 2), (3, some 3), (4, some 7)] rfl ?_⟩
            · omega
            · omega
            · have e2 : (p2C (leftsL S T P (k + 1))).cells = (catC (p2C (leftsL S T P k)) (Cont.exp [i64 (leftH S T P k P.length), i64 (leftT S T P k P.length)])).cells := by
                rw [leftsL_step, p2C_snoc, catC_cells]; rfl
              exact sd
      · rw [hkk]
        exact sd
    · obtain rfl : k = T.length := by omega
      repeat first | refine lwp_seq fun K hK => ?_ | (with_reducible refine gA ?_; apply_assumption -exfalso -symm) | refine Stp.h ?_ | refine gF rfl ?_ | refine gG rfl ?_ | refine gM hC rfl sd ?_
      (refine end_intro (by first | exact .inr rfl | exact .inl rfl) [(3, some 4)] rfl ?_)
      exact sd
def RFit_i (S : List Sec) (T : List Shf) (P : List Int) (σ : Ren) : Inst := { f := 92, hin := planIn S T P, args := [ofA S T, .sl 2 P.length], hout := [], ret := i64 (fitE S T P), σ := σ }
theorem lateAt_eq {S : List Sec} {T : List Shf} {P : List Int} {k : Nat} (b : Bool) (hb : (bif decide (P.getD k 0 ≥ 0) then decide ((T.getD (P.getD k 0).toNat shfD).day > (S.getD k secD).dl) else false) = b) : lateAt S T P k = if b = true then 23 else 0 := by
  unfold lateAt inTimeB
  subst hb
  by_cases h1 : 0 ≤ P.getD k 0 <;> by_cases h2 : (T.getD (P.getD k 0).toNat shfD).day ≤ (S.getD k secD).dl
  · simp [h1, h2]
  · rw [if_pos ⟨h1, decide_eq_false h2⟩, decide_eq_true h1, decide_eq_true (show (T.getD (P.getD k 0).toNat shfD).day > (S.getD k secD).dl by omega)]; rfl
  · simp [h1]
  · simp [h1]
theorem leftsL_getD (S : List Sec) (T : List Shf) (P : List Int) {n k : Nat} (h : k < n) : (leftsL S T P n).getD k (0, 0) = (leftH S T P k P.length, leftT S T P k P.length) := by
  unfold leftsL
  rw [List.getD_eq_getElem?_getD, List.getElem?_map, List.getElem?_range h]; rfl
set_option maxRecDepth 20000 in
set_option maxHeartbeats 4000000 in
theorem RFit_s (S : List Sec) (T : List Shf) (P : List Int) (σ : Ren) (hB : OffB S T) (hPl : P.length ≤ S.length) (hO : ∀ k, k < P.length → P.getD k 0 < T.length) : (RFit_i S T P σ).ok Tryz.prog := by
  have hS7 := hB.lS
  have hT5 := hB.lT
  have HB := Lib.hid hB
  have HO := Lib.hid hO
  clear hB hO
  unfold RFit_i Inst.ok; dsimp only; refine spec_of_body (tys := tys) 3 Tryz.func92 (by kernel_rfl) rfl tys_ok rfl (Nat.le_of_ble_eq_true rfl) (fun _ _ h => (by cases h)) fun F hP hm hC hrd => ?_; conv => whnf
  repeat first | refine lwp_seq fun K hK => ?_ | (with_reducible refine gA ?_; apply_assumption -exfalso -symm) | refine Stp.h ?_ | refine gF rfl ?_ | refine gG rfl ?_ | refine gM hC rfl sd ?_
  refine lwp_loop (fun k : Nat => ⟨[(5, i64 k), (1, .sl 2 P.length), (2, .ptr 3 0 0 0)], [(3, .blk 25 [.sl 0 S.length, .sl 1 T.length]), (0, .ro S.length 5 (secC S)), (1, .ro T.length 4 (shfC T)), (2, .ro P.length 1 (.ints .i64 P))], 4⟩) (fun k => k ≤ P.length ∧ lateP S T P = firstS (((List.range P.length).map (lateAt S T P)).drop k)) (fun k => P.length - k) 0 ⟨?_, sub_intro hm [(0, some 0), (1, some 1), (2, some 2), (3, some 3)] rfl ?_⟩ ?_
  · exact ⟨Nat.zero_le _, rfl⟩
  · exact sd
  · rintro k ⟨hk, hf⟩
    have HF := Lib.hid hf
    clear hf
    have hkk : ((k : Int)).toNat = k := Int.toNat_natCast k
    repeat first | refine lwp_seq fun K hK => ?_ | (with_reducible refine gA ?_; apply_assumption -exfalso -symm) | refine Stp.h ?_ | refine gF rfl ?_ | refine gG rfl ?_ | refine gM hC rfl sd ?_
    refine lwp_condS hC rfl sd ?_ ?_ <;> intro hb
    · have hk2 : k < P.length := by omega
      have ho := HO.out k hk2
      repeat first | refine lwp_seq fun K hK => ?_ | (with_reducible refine gA ?_; apply_assumption -exfalso -symm) | refine Stp.h ?_ | refine gF rfl ?_ | refine gG rfl ?_ | refine gM hC rfl ⟨⟩ ?_
      (refine lwp_drawn2 hC (by rw [hP]; exact mixed) ⟨[], [], []⟩ (told0 _ _) [0, 0, 3, 7, 15, 31, 63, 127, 63, 63, 831, 1855, 4095, 8191, 16383, 63, 32831, 63, 229439, 491583, 1015871, 2097151, 4194303] 23 0 rfl ?_ ?_; rotate_left 1)
      · rw [hkk]
        repeat first | refine lwp_seq fun K hK => ?_ | (with_reducible refine gA ?_; apply_assumption -exfalso -symm) | refine Stp.h ?_ | refine gF rfl ?_ | refine gG rfl ?_ | refine gM hC rfl ⟨⟩ ?_
        refine lwp_condS hC rfl sd ?_ ?_ <;> intro hb
        · have e1 : lateAt S T P k = 23 := lateAt_eq true hb
          have hf := HF.out
          rw [firstR_drop _ _ _ hk2, e1, if_neg (by decide)] at hf
          have e : fitE S T P = 23 := by unfold fitE; rw [hf]; rfl
          clear hf HF hb e1
          repeat first | refine lwp_seq fun K hK => ?_ | (with_reducible refine gA ?_; apply_assumption -exfalso -symm) | refine Stp.h ?_ | refine gF rfl ?_ | refine gG rfl ?_ | refine gM hC rfl sd ?_
          (refine end_intro (by first | exact .inr rfl | exact .inl rfl) [] rfl ?_)
          rw [e]
          exact ⟨rfl, trivial⟩
        · have e1 : lateAt S T P k = 0 := lateAt_eq false hb
          have hf := HF.out
          rw [firstR_drop _ _ _ hk2, if_pos e1] at hf
          have HG := Lib.hid hf
          clear hf HF hb e1
          repeat first | refine lwp_seq fun K hK => ?_ | (with_reducible refine gA ?_; apply_assumption -exfalso -symm) | refine Stp.h ?_ | refine gF rfl ?_ | refine gG rfl ?_ | refine gM hC rfl sd ?_
          refine gA ⟨k + 1, ?_, ?_, sub_intro hm [(0, some 0), (1, some 1), (2, some 2), (3, some 3)] rfl ?_⟩
          · exact ⟨by omega, HG.out⟩
          · omega
          · exact sd
      · rw [hkk]
        exact sd
    · obtain rfl : k = P.length := by omega
      have hf := HF.out
      rw [firstR_all] at hf
      have e : fitE S T P = shP S T P := by unfold fitE; rw [hf, first_two, if_pos rfl]
      have E2 := Lib.hid e
      clear hf HF e hb hkk
      repeat first | refine lwp_seq fun K hK => ?_ | (with_reducible refine gA ?_; apply_assumption -exfalso -symm) | refine Stp.h ?_ | refine gF rfl ?_ | refine gG rfl ?_ | refine gM hC rfl sd ?_
      (refine lwp_region hC ⟨[], [], [(2, RLeft_i S T P [(0, some 0), (1, some 1), (2, some 2)])]⟩ (told1 _ (by rw [hP]; exact (calls_cons (RLeft_s _ _ _ _ HB.out hPl) calls_nil))) rfl ?_ ?_; rotate_left 1)
      · repeat first | refine lwp_seq fun K hK => ?_ | (with_reducible refine gA ?_; apply_assumption -exfalso -symm) | refine Stp.h ?_ | refine gF rfl ?_ | refine gG rfl ?_ | refine gM hC rfl sd ?_
        refine lwp_loop (fun k : Nat => ⟨[(7, i64 k), (6, .sl 4 T.length)], [(4, .row 161 T.length 2 (p2C (leftsL S T P T.length))), (0, .ro S.length 5 (secC S)), (1, .ro T.length 4 (shfC T)), (2, .ro P.length 1 (.ints .i64 P))], 5⟩) (fun k => k ≤ T.length ∧ shP S T P = firstS (((List.range T.length).map (shAt S T P P.length)).drop k)) (fun k => T.length - k) 0 ⟨?_, sub_intro hm [(0, some 0), (1, some 1), (2, some 2), (4, some 4)] rfl ?_⟩ ?_
        · exact ⟨Nat.zero_le _, rfl⟩
        · exact sd
        · clear hk
          rintro k ⟨hk, hf⟩
          have HF := Lib.hid hf
          clear hf
          have hkk : ((k : Int)).toNat = k := Int.toNat_natCast k
          repeat first | refine lwp_seq fun K hK => ?_ | (with_reducible refine gA ?_; apply_assumption -exfalso -symm) | refine Stp.h ?_ | refine gF rfl ?_ | refine gG rfl ?_ | refine gM hC rfl sd ?_
          refine lwp_condS hC rfl sd ?_ ?_ <;> intro hb
          · have hk2 : k < T.length := by omega
            have hkL : k < (leftsL S T P T.length).length := by rw [leftsL_len]; exact hk2
            have eg := leftsL_getD S T P hk2
            repeat first | refine lwp_seq fun K hK => ?_ | (with_reducible refine gA ?_; apply_assumption -exfalso -symm) | refine Stp.h ?_ | refine gF rfl ?_ | refine gG rfl ?_ | refine gM hC rfl sd ?_
            rw [hkk, eg]
            refine lwp_condS hC rfl sd ?_ ?_ <;> intro hb
            · have e1 : shAt S T P P.length k = 4 := by unfold shAt; rw [decide_eq_true hb]; rfl
              have hf := HF.out
              rw [firstR_drop _ _ _ hk2, e1, if_neg (by decide), ← E2.out] at hf
              have HE := Lib.hid hf
              clear hf HF E2 e1
              repeat first | refine lwp_seq fun K hK => ?_ | (with_reducible refine gA ?_; apply_assumption -exfalso -symm) | refine Stp.h ?_ | refine gF rfl ?_ | refine gG rfl ?_ | refine gM hC rfl sd ?_
              (refine end_intro (by first | exact .inr rfl | exact .inl rfl) [] rfl ?_)
              rw [HE.out]
              exact ⟨rfl, trivial⟩
            · have e1 : shAt S T P P.length k = whenS (decide (leftT S T P k P.length < 0)) 20 := by
                unfold shAt; rw [decide_eq_false hb, first_two, if_pos (show whenS false 4 = 0 from rfl)]
              clear hb
              repeat first | refine lwp_seq fun K hK => ?_ | (with_reducible refine gA ?_; apply_assumption -exfalso -symm) | refine Stp.h ?_ | refine gF rfl ?_ | refine gG rfl ?_ | refine gM hC rfl sd ?_
              refine lwp_condS hC rfl sd ?_ ?_ <;> intro hb
              · rw [hkk, eg] at hb
                have hb : leftT S T P k P.length < 0 := hb
                rw [decide_eq_true hb] at e1
                have e1 : shAt S T P P.length k = 20 := e1
                have hf := HF.out
                rw [firstR_drop _ _ _ hk2, e1, if_neg (by decide), ← E2.out] at hf
                have HE := Lib.hid hf
                clear hf HF E2 e1
                repeat first | refine lwp_seq fun K hK => ?_ | (with_reducible refine gA ?_; apply_assumption -exfalso -symm) | refine Stp.h ?_ | refine gF rfl ?_ | refine gG rfl ?_ | refine gM hC rfl sd ?_
                (refine end_intro (by first | exact .inr rfl | exact .inl rfl) [] rfl ?_)
                rw [HE.out]
                exact ⟨rfl, trivial⟩
              · rw [hkk, eg] at hb
                have hb : ¬ leftT S T P k P.length < 0 := hb
                rw [decide_eq_false hb] at e1
                have e1 : shAt S T P P.length k = 0 := e1
                have hf := HF.out
                rw [firstR_drop _ _ _ hk2, if_pos e1] at hf
                have HG := Lib.hid hf
                clear hf HF hb e1
                repeat first | refine lwp_seq fun K hK => ?_ | (with_reducible refine gA ?_; apply_assumption -exfalso -symm) | refine Stp.h ?_ | refine gF rfl ?_ | refine gG rfl ?_ | refine gM hC rfl sd ?_
                refine gA ⟨k + 1, ?_, ?_, sub_intro hm [(0, some 0), (1, some 1), (2, some 2), (4, some 4)] rfl ?_⟩
                · exact ⟨by omega, HG.out⟩
                · omega
                · exact sd
          · obtain rfl : k = T.length := by omega
            have hf := HF.out
            rw [firstR_all, ← E2.out] at hf
            have HE := Lib.hid hf
            clear hf HF
            repeat first | refine lwp_seq fun K hK => ?_ | (with_reducible refine gA ?_; apply_assumption -exfalso -symm) | refine Stp.h ?_ | refine gF rfl ?_ | refine gG rfl ?_ | refine gM hC rfl sd ?_
            (refine end_intro (by first | exact .inr rfl | exact .inl rfl) [] rfl ?_)
            rw [HE.out]
            exact ⟨rfl, trivial⟩
      · exact sd
def RCPlan_i (S : List Sec) (T : List Shf) (P : List Int) (σ : Ren) : Inst := { f := 33, hin := planIn S T P, args := [ofA S T, .sl 2 P.length], hout := [], ret := i64 (cpE S T P), σ := σ }
theorem any_of {α : Type} {p : α → Bool} {l : List α} {d : α} (h : ∀ k, k < l.length → p (l.getD k d) = false) : l.any p = false := by
  rw [List.any_eq_false]
  intro x hx
  obtain ⟨i, hi, rfl⟩ := List.mem_iff_getElem.1 hx
  have := h i hi
  rw [List.getD_eq_getElem?_getD, List.getElem?_eq_getElem hi] at this
  simpa using this
theorem any_hit {α : Type} {p : α → Bool} {l : List α} {d : α} {k : Nat} (hk : k < l.length) (h : p (l.getD k d) = true) : l.any p = true := by
  rw [List.getD_eq_getElem?_getD, List.getElem?_eq_getElem hk] at h
  exact List.any_eq_true.2 ⟨_, List.getElem_mem hk, h⟩
set_option maxRecDepth 20000 in
theorem RCPlan_s (S : List Sec) (T : List Shf) (P : List Int) (σ : Ren) (hB : OffB S T) (hPl : P.length ≤ 1000000) : (RCPlan_i S T P σ).ok Tryz.prog := by
  have hS7 := hB.lS
  have hT5 := hB.lT
  have HB := Lib.hid hB
  clear hB
  unfold RCPlan_i Inst.ok; dsimp only; refine spec_of_body (tys := tys) 3 Tryz.func33 (by kernel_rfl) rfl tys_ok rfl (Nat.le_of_ble_eq_true rfl) (fun _ _ h => (by cases h)) fun F hP hm hC hrd => ?_; conv => whnf
  repeat first | refine lwp_seq fun K hK => ?_ | (with_reducible refine gA ?_; apply_assumption -exfalso -symm) | refine Stp.h ?_ | refine gF rfl ?_ | refine gG rfl ?_ | refine gM hC rfl sd ?_
  refine lwp_condS hC rfl sd ?_ ?_ <;> intro hb
  · have e : cpE S T P = 2 := if_pos (by omega)
    repeat first | refine lwp_seq fun K hK => ?_ | (with_reducible refine gA ?_; apply_assumption -exfalso -symm) | refine Stp.h ?_ | refine gF rfl ?_ | refine gG rfl ?_ | refine gM hC rfl sd ?_
    (refine end_intro (by first | exact .inr rfl | exact .inl rfl) [] rfl ?_)
    rw [e]
    exact ⟨rfl, trivial⟩
  · have hl : P.length = S.length := by omega
    clear hb
    repeat first | refine lwp_seq fun K hK => ?_ | (with_reducible refine gA ?_; apply_assumption -exfalso -symm) | refine Stp.h ?_ | refine gF rfl ?_ | refine gG rfl ?_ | refine gM hC rfl sd ?_
    refine lwp_loop (fun k : Nat => ⟨[(5, i64 k), (1, .sl 2 P.length), (2, .ptr 3 0 0 0)], [(3, .blk 25 [.sl 0 S.length, .sl 1 T.length]), (0, .ro S.length 5 (secC S)), (1, .ro T.length 4 (shfC T)), (2, .ro P.length 1 (.ints .i64 P))], 4⟩) (fun k => k ≤ P.length ∧ ∀ i, i < k → outB T.length (P.getD i 0) = false) (fun k => P.length - k) 0 ⟨?_, sub_intro hm [(0, some 0), (1, some 1), (2, some 2), (3, some 3)] rfl ?_⟩ ?_
    · exact ⟨Nat.zero_le _, fun i hi => absurd hi (Nat.not_lt_zero _)⟩
    · exact sd
    · rintro k ⟨hk, hf⟩
      have HF := Lib.hid hf
      clear hf
      have hkk : ((k : Int)).toNat = k := Int.toNat_natCast k
      repeat first | refine lwp_seq fun K hK => ?_ | (with_reducible refine gA ?_; apply_assumption -exfalso -symm) | refine Stp.h ?_ | refine gF rfl ?_ | refine gG rfl ?_ | refine gM hC rfl sd ?_
      refine lwp_condS hC rfl sd ?_ ?_ <;> intro hb
      · have hk2 : k < P.length := by omega
        repeat first | refine lwp_seq fun K hK => ?_ | (with_reducible refine gA ?_; apply_assumption -exfalso -symm) | refine Stp.h ?_ | refine gF rfl ?_ | refine gG rfl ?_ | refine gM hC rfl ⟨⟩ ?_
        (refine lwp_drawn hC (by rw [hP]; exact mixed) ⟨[], [], []⟩ (told0 _ _) [0, 0, 3, 7, 15, 31, 63, 63, 255, 511, 63, 1087, 3135, 8191, 16383] 13 rfl ?_ ?_; rotate_left 1)
        · rw [hkk]
          repeat first | refine lwp_seq fun K hK => ?_ | (with_reducible refine gA ?_; apply_assumption -exfalso -symm) | refine Stp.h ?_ | refine gF rfl ?_ | refine gG rfl ?_ | refine gM hC rfl ⟨⟩ ?_
          refine lwp_condS hC rfl sd ?_ ?_ <;> intro hb
          · have e : cpE S T P = 10 := by
              unfold cpE; rw [if_neg (by omega), if_pos (any_hit (d := 0) hk2 (show outB T.length (P.getD k 0) = true from hb))]
            repeat first | refine lwp_seq fun K hK => ?_ | (with_reducible refine gA ?_; apply_assumption -exfalso -symm) | refine Stp.h ?_ | refine gF rfl ?_ | refine gG rfl ?_ | refine gM hC rfl sd ?_
            (refine end_intro (by first | exact .inr rfl | exact .inl rfl) [] rfl ?_)
            rw [e]
            exact ⟨rfl, trivial⟩
          · have hG := HF.out
            have HG := Lib.hid (show ∀ i, i < k + 1 → outB T.length (P.getD i 0) = false from fun i hi => by
              by_cases e : i = k
              · subst e; exact hb
              · exact hG i (by omega))
            clear hb hG HF
            repeat first | refine lwp_seq fun K hK => ?_ | (with_reducible refine gA ?_; apply_assumption -exfalso -symm) | refine Stp.h ?_ | refine gF rfl ?_ | refine gG rfl ?_ | refine gM hC rfl sd ?_
            refine gA ⟨k + 1, ?_, ?_, sub_intro hm [(0, some 0), (1, some 1), (2, some 2), (3, some 3)] rfl ?_⟩
            · exact ⟨by omega, HG.out⟩
            · omega
            · exact sd
        · rw [hkk]
          exact sd
      · obtain rfl : k = P.length := by omega
        have e : cpE S T P = fitE S T P := by
          unfold cpE; rw [if_neg (by omega), if_neg (by rw [any_of HF.out]; decide)]
        clear hb
        repeat first | refine lwp_seq fun K hK => ?_ | (with_reducible refine gA ?_; apply_assumption -exfalso -symm) | refine Stp.h ?_ | refine gF rfl ?_ | refine gG rfl ?_ | refine gM hC rfl sd ?_
        (refine lwp_region hC ⟨[], [], [(2, RFit_i S T P [(0, some 0), (1, some 1), (2, some 2)])]⟩ (told1 _ (by rw [hP]; exact (calls_cons (RFit_s _ _ _ _ HB.out (by omega) (fun k hk => (outB_false (HF.out k hk)).2)) calls_nil))) rfl ?_ ?_; rotate_left 1)
        · repeat first | refine lwp_seq fun K hK => ?_ | (with_reducible refine gA ?_; apply_assumption -exfalso -symm) | refine Stp.h ?_ | refine gF rfl ?_ | refine gG rfl ?_ | refine gM hC rfl sd ?_
          (refine end_intro (by first | exact .inr rfl | exact .inl rfl) [] rfl ?_)
          rw [e]
          exact ⟨rfl, trivial⟩
        · exact sd
def RVal_i (S : List Sec) (T : List Shf) (P : List Int) (σ : Ren) : Inst := { f := 24, hin := planIn S T P, args := [ofA S T, .sl 2 P.length], hout := [], ret := .agg [i64 (valV S P P.length), i64 (valC S T P P.length)], σ := σ }
set_option maxRecDepth 20000 in
theorem RVal_s (S : List Sec) (T : List Shf) (P : List Int) (σ : Ren) (hB : OffB S T) (hPl : P.length ≤ S.length) (hO : ∀ k, k < P.length → P.getD k 0 < T.length) : (RVal_i S T P σ).ok Tryz.prog := by
  have hS7 := hB.lS
  have hT5 := hB.lT
  have HB := Lib.hid hB
  have HO := Lib.hid hO
  clear hB hO
  unfold RVal_i Inst.ok; dsimp only; refine spec_of_body (tys := tys) 3 Tryz.func24 (by kernel_rfl) rfl tys_ok rfl (Nat.le_of_ble_eq_true rfl) (fun _ _ h => (by cases h)) fun F hP hm hC hrd => ?_; conv => whnf
  repeat first | refine lwp_seq fun K hK => ?_ | (with_reducible refine gA ?_; apply_assumption -exfalso -symm) | refine Stp.h ?_ | refine gF rfl ?_ | refine gG rfl ?_ | refine gM hC rfl sd ?_
  refine lwp_loop (fun n : Nat => ⟨[(6, i64 n), (1, .sl 2 P.length), (2, .ptr 3 0 0 0), (4, .ptr 4 0 0 0), (5, .ptr 5 0 0 0)], [(5, .blk 44 [i64 (valV S P n), i64 (valC S T P n)]), (4, .blk 44 [i64 0, i64 0]), (3, .blk 25 [.sl 0 S.length, .sl 1 T.length]), (0, .ro S.length 5 (secC S)), (1, .ro T.length 4 (shfC T)), (2, .ro P.length 1 (.ints .i64 P))], 6⟩) (fun n => n ≤ P.length) (fun n => P.length - n) 0 ⟨?_, sub_intro hm [(0, some 0), (1, some 1), (2, some 2), (3, some 3), (4, some 4), (5, some 5)] rfl ?_⟩ ?_
  · exact Nat.zero_le _
  · have e1 : valV S P 0 = 0 := rfl
    have e2 : valC S T P 0 = 0 := rfl
    rw [e1, e2]
    exact sd
  · rintro n hn
    have hnn : ((n : Int)).toNat = n := Int.toNat_natCast n
    repeat first | refine lwp_seq fun K hK => ?_ | (with_reducible refine gA ?_; apply_assumption -exfalso -symm) | refine Stp.h ?_ | refine gF rfl ?_ | refine gG rfl ?_ | refine gM hC rfl sd ?_
    refine lwp_condS hC rfl sd ?_ ?_ <;> intro hb
    · have hi := val_in (P := P) HB.out n
      have hv := HB.out.vl n
      have hw := wkrt_in HB.out n (P.getD n 0).toNat
      have ho := HO.out n (by omega)
      have hnS : n < S.length := by omega
      have hnP : n < P.length := by omega
      repeat first | refine lwp_seq fun K hK => ?_ | (with_reducible refine gA ?_; apply_assumption -exfalso -symm) | refine Stp.h ?_ | refine gF rfl ?_ | refine gG rfl ?_ | refine gM hC rfl sd ?_
      rw [hnn]
      refine lwp_condS hC rfl sd ?_ ?_ <;> intro hb
      · have hb : 0 ≤ P.getD n 0 := hb
        have e1 : valV S P (n + 1) = valV S P n + (S.getD n secD).vl := by simp only [valV, if_pos hb]
        have e2 : valC S T P (n + 1) = valC S T P n + (S.getD n secD).wk * (T.getD (P.getD n 0).toNat shfD).rt := by simp only [valC, if_pos hb]
        repeat first | refine lwp_seq fun K hK => ?_ | (with_reducible refine gA ?_; apply_assumption -exfalso -symm) | refine Stp.h ?_ | refine gF rfl ?_ | refine gG rfl ?_ | refine gM hC rfl ⟨⟩ ?_
        (refine lwp_drawn2 hC (by rw [hP]; exact mixed) ⟨[], [], []⟩ (told0 _ _) [0, 1, 0, 4, 0, 28, 60, 124, 255, 0, 512, 0, 2048, 0, 14336, 30720, 63488, 0, 131072, 0, 0, 1572864, 3670016, 8257536, 16646144, 33423360, 67106816, 134217216, 2047, 268437503, 1073741823, 2147483647] 29 268433408 rfl ?_ ?_; rotate_left 1)
        · rw [hnn]
          repeat first | refine lwp_seq fun K hK => ?_ | (with_reducible refine gA ?_; apply_assumption -exfalso -symm) | refine Stp.h ?_ | refine gF rfl ?_ | refine gG rfl ?_ | refine gM hC rfl sd ?_
          refine gA ⟨n + 1, ?_, ?_, sub_intro hm [(0, some 0), (1, some 1), (2, some 2), (3, some 3), (4, some 4), (5, some 5)] rfl ?_⟩
          · omega
          · omega
          · rw [e1, e2]
            exact sd
        · rw [hnn]
          exact sd
      · have hb : ¬ 0 ≤ P.getD n 0 := hb
        have e1 : valV S P (n + 1) = valV S P n := by simp only [valV, if_neg hb, Int.add_zero]
        have e2 : valC S T P (n + 1) = valC S T P n := by simp only [valC, if_neg hb, Int.add_zero]
        repeat first | refine lwp_seq fun K hK => ?_ | (with_reducible refine gA ?_; apply_assumption -exfalso -symm) | refine Stp.h ?_ | refine gF rfl ?_ | refine gG rfl ?_ | refine gM hC rfl sd ?_
        refine gA ⟨n + 1, ?_, ?_, sub_intro hm [(0, some 0), (1, some 1), (2, some 2), (3, some 3), (4, some 4), (5, some 5)] rfl ?_⟩
        · omega
        · omega
        · rw [e1, e2]
          exact sd
    · obtain rfl : n = P.length := by omega
      repeat first | refine lwp_seq fun K hK => ?_ | (with_reducible refine gA ?_; apply_assumption -exfalso -symm) | refine Stp.h ?_ | refine gF rfl ?_ | refine gG rfl ?_ | refine gM hC rfl sd ?_
      (refine end_intro (by first | exact .inr rfl | exact .inl rfl) [] rfl ?_)
      exact ⟨rfl, rfl, trivial⟩

end Go.Proofs.YtccddhoeampdjaaGreatDoor
