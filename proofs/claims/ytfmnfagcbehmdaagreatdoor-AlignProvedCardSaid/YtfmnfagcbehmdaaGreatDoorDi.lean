/- Chapter 5: the reference's checks of rides, costs and pairs. -/
import Derived.Test.YtfmnfagcbehmdaaGreatDoorDf
set_option linter.unusedVariables false
set_option linter.unusedSimpArgs false
namespace Go.Proofs.YtfmnfagcbehmdaaGreatDoor
open Go.RowKit Go.Sym

def rthS (s : ByteArray) (n before : Int) (is : Bool) : Int := firstS [whenS (decide (whenS (!nameOk s) 8 ≠ 0)) 13, withinS n 0 100000000, whenS (bif is then decide (n ≤ before) else false) 11]
def RThing_i (s : ByteArray) (n before : Int) (is : Bool) : Inst := { f := 62, hin := [], args := [.lit (.string s), i64 n, i64 before, bl is], hout := [], ret := i64 (rthS s n before is), σ := [] }
set_option maxRecDepth 20000 in
theorem RThing_s (s : ByteArray) (n before : Int) (is : Bool) (hs : s.size ≤ 1000000) : (RThing_i s n before is).ok Tryz.prog := by
  unfold RThing_i Inst.ok; dsimp only; refine spec_of_body (tys := tys) 0 Tryz.func62 (by kernel_rfl) rfl tys_ok rfl (Nat.le_of_ble_eq_true rfl) (fun _ _ h => (by cases h)) fun F hP hm hC hrd => ?_; conv => whnf
  repeat first | refine lwp_seq fun K hK => ?_ | ((with_reducible refine gA ?_); apply_assumption -exfalso -symm) | refine gB ?_ | refine gC ?_ | refine gD ?_ | refine gE ?_ | refine gF rfl ?_ | refine gG rfl ?_ | refine gH ?_ | refine gI ?_ | refine gJ ?_ | refine gK ?_ | refine gL ?_ | refine gM hC rfl ⟨⟩ ?_ | refine gM hC rfl (by exact sd) ?_
  (refine lwp_region hC ⟨[], [], [(1, CheckName_i s), (3, When_i (decide (whenS (!nameOk s) 8 ≠ 0)) 13), (5, CheckRange_i n 0 100000000), (12, When_i (bif is then decide (n ≤ before) else false) 11), (14, First_i [whenS (decide (whenS (!nameOk s) 8 ≠ 0)) 13, withinS n 0 100000000, whenS (bif is then decide (n ≤ before) else false) 11] [(0, some 0)])]⟩ (told1 _ (by rw [hP]; exact (calls_cons (CheckName_s s hs) (calls_cons (When_s _ _) (calls_cons (CheckRange_s _ _ _) (calls_cons (When_s _ _) (calls_cons (First_s _ _ (by simp)) calls_nil))))))) rfl ?_ ?_; rotate_left 1)
  · repeat first | refine lwp_seq fun K hK => ?_ | ((with_reducible refine gA ?_); apply_assumption -exfalso -symm) | refine gB ?_ | refine gC ?_ | refine gD ?_ | refine gE ?_ | refine gF rfl ?_ | refine gG rfl ?_ | refine gH ?_ | refine gI ?_ | refine gJ ?_ | refine gK ?_ | refine gL ?_ | refine gM hC rfl ⟨⟩ ?_ | refine gM hC rfl (by exact sd) ?_
    (refine end_intro (by first | exact .inr rfl | exact .inl rfl) [] rfl ?_)
    exact ⟨rfl, trivial⟩
  · exact sd

def beforeI (k : Nat) : Nat := (if (k : Int) - 1 > 0 then (k : Int) - 1 else 0).toNat
theorem rth_eq (l : List Th) (k : Nat) (hk : k < l.length) : rthS (l.getD k thD).kind (l.getD k thD).place (l.getD (beforeI k) thD).place (decide ((k : Int) > 0)) = thS (l.getD k thD) (lastP l k) := by
  unfold rthS thS
  have e1 : decide (whenS (!nameOk (l.getD k thD).kind) 8 ≠ 0) = !nameOk (l.getD k thD).kind := by
    unfold whenS; cases nameOk (l.getD k thD).kind <;> rfl
  rw [e1]
  cases k with
  | zero =>
    by_cases hn : withinS (l.getD 0 thD).place 0 100000000 = 0
    · have := (withinS_zero.1 hn).1
      have e2 : decide ((l.getD 0 thD).place ≤ lastP l 0) = false := decide_eq_false (by show ¬ (l.getD 0 thD).place ≤ (-1 : Int); omega)
      rw [e2]
      rfl
    · simp only [firstS, hn, if_false]
  | succ j =>
    have e2 : decide (((j + 1 : Nat) : Int) > 0) = true := decide_eq_true (by omega)
    have e3 : beforeI (j + 1) = j := by unfold beforeI; split <;> omega
    rw [e2, e3]
    rfl
theorem before_lt {l : List Th} {k : Nat} (hk : k < l.length) : beforeI k < l.length := by unfold beforeI; split <;> omega

def kindsOk (l : List Th) : Prop := ∀ i : Nat, (l.getD i thD).kind.size ≤ 1000000
def RRide_i (m s : List Th) (σ : Ren) : Inst := { f := 10, hin := rideIn m s, args := [rdA m s], hout := [], ret := i64 (rideS m s), σ := σ }
set_option maxRecDepth 20000 in
set_option maxHeartbeats 4000000 in
theorem RRide_s (m s : List Th) (σ : Ren) (hm' : m.length ≤ 1000000) (hs : s.length ≤ 1000000) (km : kindsOk m) (ks : kindsOk s) : (RRide_i m s σ).ok Tryz.prog := by
  unfold RRide_i Inst.ok; dsimp only; refine spec_of_body (tys := tys) 2 Tryz.func10 (by kernel_rfl) rfl tys_ok rfl (Nat.le_of_ble_eq_true rfl) (fun _ _ h => (by cases h)) fun F hP hm hC hrd => ?_; conv => whnf
  repeat first | refine lwp_seq fun K hK => ?_ | ((with_reducible refine gA ?_); apply_assumption -exfalso -symm) | refine gB ?_ | refine gC ?_ | refine gD ?_ | refine gE ?_ | refine gF rfl ?_ | refine gG rfl ?_ | refine gH ?_ | refine gI ?_ | refine gJ ?_ | refine gK ?_ | refine gL ?_ | refine gM hC rfl ⟨⟩ ?_ | refine gM hC rfl (by exact sd) ?_
  (refine lwp_cond hC rfl (by first | exact ⟨⟩ | exact sd) (fun hb => ?_) (fun hb => ?_) <;> (try simp only [decide_eq_true_eq, decide_eq_false_iff_not, Bool.not_eq_true', Bool.not_eq_false', ne_eq, Decidable.not_not] at hb))
  · repeat first | refine lwp_seq fun K hK => ?_ | ((with_reducible refine gA ?_); apply_assumption -exfalso -symm) | refine gB ?_ | refine gC ?_ | refine gD ?_ | refine gE ?_ | refine gF rfl ?_ | refine gG rfl ?_ | refine gH ?_ | refine gI ?_ | refine gJ ?_ | refine gK ?_ | refine gL ?_ | refine gM hC rfl ⟨⟩ ?_ | refine gM hC rfl (by exact sd) ?_
    (refine end_intro (by first | exact .inr rfl | exact .inl rfl) [] rfl ?_)
    refine ⟨?_, trivial⟩
    show rideS m s = 5
    unfold rideS checkS
    rw [if_pos (by omega)]
    rfl
  · repeat first | refine lwp_seq fun K hK => ?_ | ((with_reducible refine gA ?_); apply_assumption -exfalso -symm) | refine gB ?_ | refine gC ?_ | refine gD ?_ | refine gE ?_ | refine gF rfl ?_ | refine gG rfl ?_ | refine gH ?_ | refine gI ?_ | refine gJ ?_ | refine gK ?_ | refine gL ?_ | refine gM hC rfl ⟨⟩ ?_ | refine gM hC rfl (by exact sd) ?_
    refine lwp_loop (fun k : Nat => ⟨[(3, i64 k), (1, .ptr 2 0 0 0)], [(2, .blk 25 [.sl 0 m.length, .sl 1 s.length]), (0, .ro m.length 2 (thC m)), (1, .ro s.length 2 (thC s))], 3⟩) (fun k => k ≤ m.length ∧ thingsS m (-1) = thingsS (m.drop k) (lastP m k)) (fun k => m.length - k) 0 ⟨?_, sub_intro hm [(0, some 0), (1, some 1), (2, some 2)] rfl ?_⟩ ?_
    · exact ⟨Nat.zero_le _, rfl⟩
    · exact sd
    · rintro k ⟨hk, hf⟩
      repeat first | refine lwp_seq fun K hK => ?_ | ((with_reducible refine gA ?_); apply_assumption -exfalso -symm) | refine gB ?_ | refine gC ?_ | refine gD ?_ | refine gE ?_ | refine gF rfl ?_ | refine gG rfl ?_ | refine gH ?_ | refine gI ?_ | refine gJ ?_ | refine gK ?_ | refine gL ?_ | refine gM hC rfl ⟨⟩ ?_ | refine gM hC rfl (by exact sd) ?_
      (refine lwp_cond hC rfl (by first | exact ⟨⟩ | exact sd) (fun hb => ?_) (fun hb => ?_) <;> (try simp only [decide_eq_true_eq, decide_eq_false_iff_not, Bool.not_eq_true', Bool.not_eq_false', ne_eq, Decidable.not_not] at hb))
      · have hkm : k < m.length := by omega
        have hbm : (if (k : Int) - 1 > 0 then (k : Int) - 1 else 0).toNat < m.length := before_lt hkm
        have h00 : 0 ≤ (if (k : Int) - 1 > 0 then (k : Int) - 1 else 0) := by split <;> omega
        repeat first | refine lwp_seq fun K hK => ?_ | ((with_reducible refine gA ?_); apply_assumption -exfalso -symm) | refine gB ?_ | refine gC ?_ | refine gD ?_ | refine gE ?_ | refine gF rfl ?_ | refine gG rfl ?_ | refine gH ?_ | refine gI ?_ | refine gJ ?_ | refine gK ?_ | refine gL ?_ | refine gM hC rfl ⟨⟩ ?_ | refine gM hC rfl (by exact sd) ?_
        (refine lwp_drawn2 hC (by rw [hP]; exact mixed) ⟨[], [], [(22, RThing_i (m.getD k thD).kind (m.getD k thD).place (m.getD (beforeI k) thD).place (decide ((k : Int) > 0)))]⟩ (told1 _ (by rw [hP]; exact (calls_cons (RThing_s _ _ _ _ (km k)) calls_nil))) [0, 1, 0, 7, 15, 31, 0, 64, 0, 448, 960, 1984, 0, 4096, 0, 16384, 49152, 126976, 258048, 520192, 0, 1048576, 4194303, 8388607] 24 0 rfl ?_ ?_; rotate_left 1)
        · repeat first | refine lwp_seq fun K hK => ?_ | ((with_reducible refine gA ?_); apply_assumption -exfalso -symm) | refine gB ?_ | refine gC ?_ | refine gD ?_ | refine gE ?_ | refine gF rfl ?_ | refine gG rfl ?_ | refine gH ?_ | refine gI ?_ | refine gJ ?_ | refine gK ?_ | refine gL ?_ | refine gM hC rfl ⟨⟩ ?_ | refine gM hC rfl (by exact sd) ?_
          rw [rth_eq m k hkm]
          (refine lwp_cond hC rfl (by first | exact ⟨⟩ | exact sd) (fun hb => ?_) (fun hb => ?_) <;> (try simp only [decide_eq_true_eq, decide_eq_false_iff_not, Bool.not_eq_true', Bool.not_eq_false', ne_eq, Decidable.not_not] at hb))
          · repeat first | refine lwp_seq fun K hK => ?_ | ((with_reducible refine gA ?_); apply_assumption -exfalso -symm) | refine gB ?_ | refine gC ?_ | refine gD ?_ | refine gE ?_ | refine gF rfl ?_ | refine gG rfl ?_ | refine gH ?_ | refine gI ?_ | refine gJ ?_ | refine gK ?_ | refine gL ?_ | refine gM hC rfl ⟨⟩ ?_ | refine gM hC rfl (by exact sd) ?_
            (refine end_intro (by first | exact .inr rfl | exact .inl rfl) [] rfl ?_)
            refine ⟨?_, trivial⟩
            show rideS m s = thS (m.getD k thD) (lastP m k)
            unfold rideS checkS
            rw [if_neg (by omega), hf, thingsS_drop m k hkm, if_neg hb]
            simp only [firstS, if_neg hb]
          · repeat first | refine lwp_seq fun K hK => ?_ | ((with_reducible refine gA ?_); apply_assumption -exfalso -symm) | refine gB ?_ | refine gC ?_ | refine gD ?_ | refine gE ?_ | refine gF rfl ?_ | refine gG rfl ?_ | refine gH ?_ | refine gI ?_ | refine gJ ?_ | refine gK ?_ | refine gL ?_ | refine gM hC rfl ⟨⟩ ?_ | refine gM hC rfl (by exact sd) ?_
            refine gA ⟨k + 1, ?_, ?_, sub_intro hm [(0, some 0), (1, some 1), (2, some 2)] rfl ?_⟩
            · exact ⟨by omega, by rw [hf, thingsS_drop m k hkm, if_pos hb]⟩
            · omega
            · exact sd
        · unfold beforeI
          exact sd
      · have hM : checkS m = 0 := by
          unfold checkS
          rw [if_neg (by omega), hf, List.drop_of_length_le (by omega)]
          rfl
        repeat first | refine lwp_seq fun K hK => ?_ | ((with_reducible refine gA ?_); apply_assumption -exfalso -symm) | refine gB ?_ | refine gC ?_ | refine gD ?_ | refine gE ?_ | refine gF rfl ?_ | refine gG rfl ?_ | refine gH ?_ | refine gI ?_ | refine gJ ?_ | refine gK ?_ | refine gL ?_ | refine gM hC rfl ⟨⟩ ?_ | refine gM hC rfl (by exact sd) ?_
        (refine lwp_cond hC rfl (by first | exact ⟨⟩ | exact sd) (fun hb => ?_) (fun hb => ?_) <;> (try simp only [decide_eq_true_eq, decide_eq_false_iff_not, Bool.not_eq_true', Bool.not_eq_false', ne_eq, Decidable.not_not] at hb))
        · repeat first | refine lwp_seq fun K hK => ?_ | ((with_reducible refine gA ?_); apply_assumption -exfalso -symm) | refine gB ?_ | refine gC ?_ | refine gD ?_ | refine gE ?_ | refine gF rfl ?_ | refine gG rfl ?_ | refine gH ?_ | refine gI ?_ | refine gJ ?_ | refine gK ?_ | refine gL ?_ | refine gM hC rfl ⟨⟩ ?_ | refine gM hC rfl (by exact sd) ?_
          (refine end_intro (by first | exact .inr rfl | exact .inl rfl) [] rfl ?_)
          refine ⟨?_, trivial⟩
          show rideS m s = 5
          unfold rideS
          rw [hM]
          unfold checkS
          rw [if_pos (by omega)]
          rfl
        · have hb64 := hb
          clear hb
          repeat first | refine lwp_seq fun K hK => ?_ | ((with_reducible refine gA ?_); apply_assumption -exfalso -symm) | refine gB ?_ | refine gC ?_ | refine gD ?_ | refine gE ?_ | refine gF rfl ?_ | refine gG rfl ?_ | refine gH ?_ | refine gI ?_ | refine gJ ?_ | refine gK ?_ | refine gL ?_ | refine gM hC rfl ⟨⟩ ?_ | refine gM hC rfl (by exact sd) ?_
          refine lwp_loop (fun k : Nat => ⟨[(5, i64 k), (1, .ptr 2 0 0 0)], [(2, .blk 25 [.sl 0 m.length, .sl 1 s.length]), (0, .ro m.length 2 (thC m)), (1, .ro s.length 2 (thC s))], 3⟩) (fun k => k ≤ s.length ∧ thingsS s (-1) = thingsS (s.drop k) (lastP s k)) (fun k => s.length - k) 0 ⟨?_, sub_intro hm [(0, some 0), (1, some 1), (2, some 2)] rfl ?_⟩ ?_
          · exact ⟨Nat.zero_le _, rfl⟩
          · exact sd
          · clear hk hf
            rintro k ⟨hk, hf⟩
            repeat first | refine lwp_seq fun K hK => ?_ | ((with_reducible refine gA ?_); apply_assumption -exfalso -symm) | refine gB ?_ | refine gC ?_ | refine gD ?_ | refine gE ?_ | refine gF rfl ?_ | refine gG rfl ?_ | refine gH ?_ | refine gI ?_ | refine gJ ?_ | refine gK ?_ | refine gL ?_ | refine gM hC rfl ⟨⟩ ?_ | refine gM hC rfl (by exact sd) ?_
            (refine lwp_cond hC rfl (by first | exact ⟨⟩ | exact sd) (fun hb => ?_) (fun hb => ?_) <;> (try simp only [decide_eq_true_eq, decide_eq_false_iff_not, Bool.not_eq_true', Bool.not_eq_false', ne_eq, Decidable.not_not] at hb))
            · have hkm : k < s.length := by omega
              have hbm : (if (k : Int) - 1 > 0 then (k : Int) - 1 else 0).toNat < s.length := before_lt hkm
              have h00 : 0 ≤ (if (k : Int) - 1 > 0 then (k : Int) - 1 else 0) := by split <;> omega
              repeat first | refine lwp_seq fun K hK => ?_ | ((with_reducible refine gA ?_); apply_assumption -exfalso -symm) | refine gB ?_ | refine gC ?_ | refine gD ?_ | refine gE ?_ | refine gF rfl ?_ | refine gG rfl ?_ | refine gH ?_ | refine gI ?_ | refine gJ ?_ | refine gK ?_ | refine gL ?_ | refine gM hC rfl ⟨⟩ ?_ | refine gM hC rfl (by exact sd) ?_
              (refine lwp_drawn2 hC (by rw [hP]; exact mixed) ⟨[], [], [(22, RThing_i (s.getD k thD).kind (s.getD k thD).place (s.getD (beforeI k) thD).place (decide ((k : Int) > 0)))]⟩ (told1 _ (by rw [hP]; exact (calls_cons (RThing_s _ _ _ _ (ks k)) calls_nil))) [0, 1, 0, 7, 15, 31, 0, 64, 0, 448, 960, 1984, 0, 4096, 0, 16384, 49152, 126976, 258048, 520192, 0, 1048576, 4194303, 8388607] 24 0 rfl ?_ ?_; rotate_left 1)
              · repeat first | refine lwp_seq fun K hK => ?_ | ((with_reducible refine gA ?_); apply_assumption -exfalso -symm) | refine gB ?_ | refine gC ?_ | refine gD ?_ | refine gE ?_ | refine gF rfl ?_ | refine gG rfl ?_ | refine gH ?_ | refine gI ?_ | refine gJ ?_ | refine gK ?_ | refine gL ?_ | refine gM hC rfl ⟨⟩ ?_ | refine gM hC rfl (by exact sd) ?_
                rw [rth_eq s k hkm]
                (refine lwp_cond hC rfl (by first | exact ⟨⟩ | exact sd) (fun hb => ?_) (fun hb => ?_) <;> (try simp only [decide_eq_true_eq, decide_eq_false_iff_not, Bool.not_eq_true', Bool.not_eq_false', ne_eq, Decidable.not_not] at hb))
                · repeat first | refine lwp_seq fun K hK => ?_ | ((with_reducible refine gA ?_); apply_assumption -exfalso -symm) | refine gB ?_ | refine gC ?_ | refine gD ?_ | refine gE ?_ | refine gF rfl ?_ | refine gG rfl ?_ | refine gH ?_ | refine gI ?_ | refine gJ ?_ | refine gK ?_ | refine gL ?_ | refine gM hC rfl ⟨⟩ ?_ | refine gM hC rfl (by exact sd) ?_
                  (refine end_intro (by first | exact .inr rfl | exact .inl rfl) [] rfl ?_)
                  refine ⟨?_, trivial⟩
                  show rideS m s = thS (s.getD k thD) (lastP s k)
                  unfold rideS
                  rw [hM]
                  unfold checkS
                  rw [if_neg (by omega), hf, thingsS_drop s k hkm, if_neg hb]
                  simp only [firstS, if_neg hb]
                  rfl
                · repeat first | refine lwp_seq fun K hK => ?_ | ((with_reducible refine gA ?_); apply_assumption -exfalso -symm) | refine gB ?_ | refine gC ?_ | refine gD ?_ | refine gE ?_ | refine gF rfl ?_ | refine gG rfl ?_ | refine gH ?_ | refine gI ?_ | refine gJ ?_ | refine gK ?_ | refine gL ?_ | refine gM hC rfl ⟨⟩ ?_ | refine gM hC rfl (by exact sd) ?_
                  refine gA ⟨k + 1, ?_, ?_, sub_intro hm [(0, some 0), (1, some 1), (2, some 2)] rfl ?_⟩
                  · exact ⟨by omega, by rw [hf, thingsS_drop s k hkm, if_pos hb]⟩
                  · omega
                  · exact sd
              · unfold beforeI
                exact sd
            · repeat first | refine lwp_seq fun K hK => ?_ | ((with_reducible refine gA ?_); apply_assumption -exfalso -symm) | refine gB ?_ | refine gC ?_ | refine gD ?_ | refine gE ?_ | refine gF rfl ?_ | refine gG rfl ?_ | refine gH ?_ | refine gI ?_ | refine gJ ?_ | refine gK ?_ | refine gL ?_ | refine gM hC rfl ⟨⟩ ?_ | refine gM hC rfl (by exact sd) ?_
              (refine end_intro (by first | exact .inr rfl | exact .inl rfl) [] rfl ?_)
              refine ⟨?_, trivial⟩
              show rideS m s = 0
              unfold rideS
              rw [hM]
              unfold checkS
              rw [if_neg (by omega), hf, List.drop_of_length_le (by omega)]
              rfl

def RCosts_i (a b c : Int) : Inst := { f := 16, hin := [], args := [.agg [i64 a, i64 b, i64 c]], hout := [], ret := i64 (costsS a b c), σ := [] }
theorem RCosts_s (a b c : Int) : (RCosts_i a b c).ok Tryz.prog := by
  unfold RCosts_i Inst.ok; dsimp only; refine spec_of_body (tys := tys) 0 Tryz.func16 (by kernel_rfl) rfl tys_ok rfl (Nat.le_of_ble_eq_true rfl) (fun _ _ h => (by cases h)) fun F hP hm hC hrd => ?_; conv => whnf
  repeat first | refine lwp_seq fun K hK => ?_ | ((with_reducible refine gA ?_); apply_assumption -exfalso -symm) | refine gB ?_ | refine gC ?_ | refine gD ?_ | refine gE ?_ | refine gF rfl ?_ | refine gG rfl ?_ | refine gH ?_ | refine gI ?_ | refine gJ ?_ | refine gK ?_ | refine gL ?_ | refine gM hC rfl ⟨⟩ ?_ | refine gM hC rfl (by exact sd) ?_
  (refine lwp_drawn hC (by rw [hP]; exact mixed) ⟨[], [], [(2, CheckRange_i a 0 1000), (5, CheckRange_i b 0 1000), (8, CheckRange_i c 0 1000), (10, First_i [withinS a 0 1000, withinS b 0 1000, withinS c 0 1000] [(0, some 1)])]⟩ (told1 _ (by rw [hP]; exact (calls_cons (CheckRange_s _ _ _) (calls_cons (CheckRange_s _ _ _) (calls_cons (CheckRange_s _ _ _) (calls_cons (First_s _ _ (by simp)) calls_nil)))))) [0, 1, 3, 0, 8, 31, 0, 64, 255, 511, 1023, 2047] 8 rfl ?_ ?_; rotate_left 1)
  · repeat first | refine lwp_seq fun K hK => ?_ | ((with_reducible refine gA ?_); apply_assumption -exfalso -symm) | refine gB ?_ | refine gC ?_ | refine gD ?_ | refine gE ?_ | refine gF rfl ?_ | refine gG rfl ?_ | refine gH ?_ | refine gI ?_ | refine gJ ?_ | refine gK ?_ | refine gL ?_ | refine gM hC rfl ⟨⟩ ?_ | refine gM hC rfl (by exact sd) ?_
    (refine end_intro (by first | exact .inr rfl | exact .inl rfl) [] rfl ?_)
    exact ⟨rfl, trivial⟩
  · exact sd

end Go.Proofs.YtfmnfagcbehmdaaGreatDoor

namespace Go.Proofs.YtfmnfagcbehmdaaGreatDoor
open Go.RowKit Go.Sym

def RAlike_i (m s : List Th) (p : Int × Int) (σ : Ren) : Inst := { f := 82, hin := rideIn m s, args := [rdA m s, prA p], hout := [], ret := bl (alikeS m s p), σ := σ }
theorem RAlike_s (m s : List Th) (p : Int × Int) (σ : Ren) (hm' : m.length ≤ 1000000) (hs : s.length ≤ 1000000) (hp : inS m s p) : (RAlike_i m s p σ).ok Tryz.prog := by
  obtain ⟨⟨h1, h2⟩, h3, h4⟩ := hp
  unfold RAlike_i Inst.ok; dsimp only; refine spec_of_body (tys := tys) 2 Tryz.func82 (by kernel_rfl) rfl tys_ok rfl (Nat.le_of_ble_eq_true rfl) (fun _ _ h => (by cases h)) fun F hP hm hC hrd => ?_; conv => whnf
  repeat first | refine lwp_seq fun K hK => ?_ | ((with_reducible refine gA ?_); apply_assumption -exfalso -symm) | refine gB ?_ | refine gC ?_ | refine gD ?_ | refine gE ?_ | refine gF rfl ?_ | refine gG rfl ?_ | refine gH ?_ | refine gI ?_ | refine gJ ?_ | refine gK ?_ | refine gL ?_ | refine gM hC rfl ⟨⟩ ?_ | refine gM hC rfl (by exact sd) ?_
  (refine lwp_drawn hC (by rw [hP]; exact mixed) ⟨[], [], []⟩ (told0 _ _) [0, 1, 0, 4, 15, 31, 63, 0, 128, 0, 512, 1920, 3968, 8064, 16383, 32767] 14 rfl ?_ ?_; rotate_left 1)
  · repeat first | refine lwp_seq fun K hK => ?_ | ((with_reducible refine gA ?_); apply_assumption -exfalso -symm) | refine gB ?_ | refine gC ?_ | refine gD ?_ | refine gE ?_ | refine gF rfl ?_ | refine gG rfl ?_ | refine gH ?_ | refine gI ?_ | refine gJ ?_ | refine gK ?_ | refine gL ?_ | refine gM hC rfl ⟨⟩ ?_ | refine gM hC rfl (by exact sd) ?_
    (refine end_intro (by first | exact .inr rfl | exact .inl rfl) [] rfl ?_)
    exact ⟨rfl, trivial⟩
  · exact sd
def afterS (b p : Int × Int) : Bool := bif decide (b.1 < p.1) then decide (b.2 < p.2) else false
def After_i (b p : Int × Int) : Inst := { f := 87, hin := [], args := [prA b, prA p], hout := [], ret := bl (afterS b p), σ := [] }
theorem After_s (b p : Int × Int) : (After_i b p).ok Tryz.prog := by
  unfold After_i Inst.ok; dsimp only; refine spec_of_body (tys := tys) 0 Tryz.func87 (by kernel_rfl) rfl tys_ok rfl (Nat.le_of_ble_eq_true rfl) (fun _ _ h => (by cases h)) fun F hP hm hC hrd => ?_; conv => whnf
  repeat first | refine lwp_seq fun K hK => ?_ | ((with_reducible refine gA ?_); apply_assumption -exfalso -symm) | refine gB ?_ | refine gC ?_ | refine gD ?_ | refine gE ?_ | refine gF rfl ?_ | refine gG rfl ?_ | refine gH ?_ | refine gI ?_ | refine gJ ?_ | refine gK ?_ | refine gL ?_ | refine gM hC rfl ⟨⟩ ?_ | refine gM hC rfl (by exact sd) ?_
  all_goals first | exact sd | skip
  (refine end_intro (by first | exact .inr rfl | exact .inl rfl) [] rfl ?_)
  exact ⟨rfl, trivial⟩

def rpairsS (m s : List Th) (l : List (Int × Int)) : Int := if 64 < l.length then 5 else pairsS m s l (-1, -1)
theorem pairE_first {m s : List Th} {p : Int × Int} (hp : inS m s p) (ha : alikeS m s p = true) : pairE m s p (-1, -1) = 0 := by
  obtain ⟨⟨h1, h2⟩, h3, h4⟩ := hp
  unfold pairE
  rw [ha, decide_eq_false (show ¬ p.1 ≤ (-1, -1).1 by show ¬ p.1 ≤ -1; omega), decide_eq_false (show ¬ p.2 ≤ (-1, -1).2 by show ¬ p.2 ≤ -1; omega)]
  rfl
theorem pairE_not {m s : List Th} {p b : Int × Int} (ha : alikeS m s p = false) : pairE m s p b = 24 := by
  unfold pairE; rw [ha]; rfl
theorem pairE_after {m s : List Th} {p b : Int × Int} (ha : alikeS m s p = true) : pairE m s p b = if afterS b p = true then 0 else 11 := by
  unfold pairE afterS
  rw [ha]
  by_cases h1 : p.1 ≤ b.1 <;> by_cases h2 : p.2 ≤ b.2
  all_goals
    simp only [h1, h2, decide_true, decide_false, cond_true, cond_false]
    first
    | (rw [decide_eq_false (show ¬ b.1 < p.1 by omega)]; rfl)
    | (rw [decide_eq_true (show b.1 < p.1 by omega), decide_eq_false (show ¬ b.2 < p.2 by omega)]; rfl)
    | (rw [decide_eq_true (show b.1 < p.1 by omega), decide_eq_true (show b.2 < p.2 by omega)]; rfl)

def RPairs_i (m s : List Th) (l : List (Int × Int)) (σ : Ren) : Inst := { f := 35, hin := costIn m s l, args := [rdA m s, .sl 2 l.length], hout := [], ret := i64 (rpairsS m s l), σ := σ }
set_option maxRecDepth 20000 in
set_option maxHeartbeats 4000000 in
theorem RPairs_s (m s : List Th) (l : List (Int × Int)) (σ : Ren) (hm' : m.length ≤ 1000000) (hs : s.length ≤ 1000000) (hl : l.length ≤ 1000000) : (RPairs_i m s l σ).ok Tryz.prog := by
  unfold RPairs_i Inst.ok; dsimp only; refine spec_of_body (tys := tys) 3 Tryz.func35 (by kernel_rfl) rfl tys_ok rfl (Nat.le_of_ble_eq_true rfl) (fun _ _ h => (by cases h)) fun F hP hm hC hrd => ?_; conv => whnf
  repeat first | refine lwp_seq fun K hK => ?_ | ((with_reducible refine gA ?_); apply_assumption -exfalso -symm) | refine gB ?_ | refine gC ?_ | refine gD ?_ | refine gE ?_ | refine gF rfl ?_ | refine gG rfl ?_ | refine gH ?_ | refine gI ?_ | refine gJ ?_ | refine gK ?_ | refine gL ?_ | refine gM hC rfl ⟨⟩ ?_ | refine gM hC rfl (by exact sd) ?_
  (refine lwp_cond hC rfl (by first | exact ⟨⟩ | exact sd) (fun hb => ?_) (fun hb => ?_) <;> (try simp only [decide_eq_true_eq, decide_eq_false_iff_not, Bool.not_eq_true', Bool.not_eq_false', ne_eq, Decidable.not_not] at hb))
  · repeat first | refine lwp_seq fun K hK => ?_ | ((with_reducible refine gA ?_); apply_assumption -exfalso -symm) | refine gB ?_ | refine gC ?_ | refine gD ?_ | refine gE ?_ | refine gF rfl ?_ | refine gG rfl ?_ | refine gH ?_ | refine gI ?_ | refine gJ ?_ | refine gK ?_ | refine gL ?_ | refine gM hC rfl ⟨⟩ ?_ | refine gM hC rfl (by exact sd) ?_
    (refine end_intro (by first | exact .inr rfl | exact .inl rfl) [] rfl ?_)
    refine ⟨?_, trivial⟩
    show rpairsS m s l = 5
    unfold rpairsS
    rw [if_pos (by omega)]
  · have hb64 := hb
    clear hb
    repeat first | refine lwp_seq fun K hK => ?_ | ((with_reducible refine gA ?_); apply_assumption -exfalso -symm) | refine gB ?_ | refine gC ?_ | refine gD ?_ | refine gE ?_ | refine gF rfl ?_ | refine gG rfl ?_ | refine gH ?_ | refine gI ?_ | refine gJ ?_ | refine gK ?_ | refine gL ?_ | refine gM hC rfl ⟨⟩ ?_ | refine gM hC rfl (by exact sd) ?_
    refine lwp_loop (fun k : Nat => ⟨[(5, i64 k), (1, .sl 2 l.length), (2, .ptr 3 0 0 0)], [(3, .blk 25 [.sl 0 m.length, .sl 1 s.length]), (0, .ro m.length 2 (thC m)), (1, .ro s.length 2 (thC s)), (2, .ro l.length 2 (prC l))], 4⟩) (fun k => k ≤ l.length ∧ pairsS m s l (-1, -1) = pairsS m s (l.drop k) (lastPr l k)) (fun k => l.length - k) 0 ⟨?_, sub_intro hm [(0, some 0), (1, some 1), (2, some 2), (3, some 3)] rfl ?_⟩ ?_
    · exact ⟨Nat.zero_le _, rfl⟩
    · exact sd
    · rintro k ⟨hk, hf⟩
      repeat first | refine lwp_seq fun K hK => ?_ | ((with_reducible refine gA ?_); apply_assumption -exfalso -symm) | refine gB ?_ | refine gC ?_ | refine gD ?_ | refine gE ?_ | refine gF rfl ?_ | refine gG rfl ?_ | refine gH ?_ | refine gI ?_ | refine gJ ?_ | refine gK ?_ | refine gL ?_ | refine gM hC rfl ⟨⟩ ?_ | refine gM hC rfl (by exact sd) ?_
      (refine lwp_cond hC rfl (by first | exact ⟨⟩ | exact sd) (fun hb => ?_) (fun hb => ?_) <;> (try simp only [decide_eq_true_eq, decide_eq_false_iff_not, Bool.not_eq_true', Bool.not_eq_false', ne_eq, Decidable.not_not] at hb))
      · have hkl : k < l.length := by omega
        have hD := pairsS_drop m s l k hkl
        repeat first | refine lwp_seq fun K hK => ?_ | ((with_reducible refine gA ?_); apply_assumption -exfalso -symm) | refine gB ?_ | refine gC ?_ | refine gD ?_ | refine gE ?_ | refine gF rfl ?_ | refine gG rfl ?_ | refine gH ?_ | refine gI ?_ | refine gJ ?_ | refine gK ?_ | refine gL ?_ | refine gM hC rfl ⟨⟩ ?_ | refine gM hC rfl (by exact sd) ?_
        (refine lwp_cond hC rfl (by first | exact ⟨⟩ | exact sd) (fun hb => ?_) (fun hb => ?_) <;> (try simp only [decide_eq_true_eq, decide_eq_false_iff_not, Bool.not_eq_true', Bool.not_eq_false', ne_eq, Decidable.not_not] at hb))
        · have hb' : outS m s (prAt l k) = true := by rw [Int.toNat_natCast] at hb; exact hb
          repeat first | refine lwp_seq fun K hK => ?_ | ((with_reducible refine gA ?_); apply_assumption -exfalso -symm) | refine gB ?_ | refine gC ?_ | refine gD ?_ | refine gE ?_ | refine gF rfl ?_ | refine gG rfl ?_ | refine gH ?_ | refine gI ?_ | refine gJ ?_ | refine gK ?_ | refine gL ?_ | refine gM hC rfl ⟨⟩ ?_ | refine gM hC rfl (by exact sd) ?_
          (refine end_intro (by first | exact .inr rfl | exact .inl rfl) [] rfl ?_)
          refine ⟨?_, trivial⟩
          show rpairsS m s l = 10
          unfold rpairsS
          rw [if_neg (by omega), hf, hD, if_pos hb']
        · have hb' : outS m s (prAt l k) = false := by rw [Int.toNat_natCast] at hb; exact hb
          have hin := outS_in hb'
          rw [if_neg (by rw [hb']; decide)] at hD
          clear hb
          repeat first | refine lwp_seq fun K hK => ?_ | ((with_reducible refine gA ?_); apply_assumption -exfalso -symm) | refine gB ?_ | refine gC ?_ | refine gD ?_ | refine gE ?_ | refine gF rfl ?_ | refine gG rfl ?_ | refine gH ?_ | refine gI ?_ | refine gJ ?_ | refine gK ?_ | refine gL ?_ | refine gM hC rfl ⟨⟩ ?_ | refine gM hC rfl (by exact sd) ?_
          (refine lwp_region hC ⟨[], [], [(2, RAlike_i m s (prAt l k) [(0, some 0), (1, some 1)])]⟩ (told1 _ (by rw [hP]; exact (calls_cons (RAlike_s _ _ _ _ hm' hs hin) calls_nil))) rfl ?_ ?_; rotate_left 1)
          · repeat first | refine lwp_seq fun K hK => ?_ | ((with_reducible refine gA ?_); apply_assumption -exfalso -symm) | refine gB ?_ | refine gC ?_ | refine gD ?_ | refine gE ?_ | refine gF rfl ?_ | refine gG rfl ?_ | refine gH ?_ | refine gI ?_ | refine gJ ?_ | refine gK ?_ | refine gL ?_ | refine gM hC rfl ⟨⟩ ?_ | refine gM hC rfl (by exact sd) ?_
            (refine lwp_cond hC rfl (by first | exact ⟨⟩ | exact sd) (fun hb => ?_) (fun hb => ?_) <;> (try simp only [decide_eq_true_eq, decide_eq_false_iff_not, Bool.not_eq_true', Bool.not_eq_false', ne_eq, Decidable.not_not] at hb))
            · have hb2 : alikeS m s (prAt l k) = false := by simpa using hb
              repeat first | refine lwp_seq fun K hK => ?_ | ((with_reducible refine gA ?_); apply_assumption -exfalso -symm) | refine gB ?_ | refine gC ?_ | refine gD ?_ | refine gE ?_ | refine gF rfl ?_ | refine gG rfl ?_ | refine gH ?_ | refine gI ?_ | refine gJ ?_ | refine gK ?_ | refine gL ?_ | refine gM hC rfl ⟨⟩ ?_ | refine gM hC rfl (by exact sd) ?_
              (refine end_intro (by first | exact .inr rfl | exact .inl rfl) [] rfl ?_)
              refine ⟨?_, trivial⟩
              show rpairsS m s l = 24
              unfold rpairsS
              rw [if_neg (by omega), hf, hD, pairE_not hb2]
              rfl
            · have hb2 : alikeS m s (prAt l k) = true := by simpa using hb
              clear hb
              rcases Nat.eq_zero_or_pos k with hk0 | hk0
              · repeat first | refine lwp_seq fun K hK => ?_ | ((with_reducible refine gA ?_); apply_assumption -exfalso -symm) | refine gB ?_ | refine gC ?_ | refine gD ?_ | refine gE ?_ | refine gF rfl ?_ | refine gG rfl ?_ | refine gH ?_ | refine gI ?_ | refine gJ ?_ | refine gK ?_ | refine gL ?_ | refine gM hC rfl ⟨⟩ ?_ | refine gM hC rfl (by exact sd) ?_
                (refine lwp_drawn hC (by rw [hP]; exact mixed) ⟨[(2, { b := some false }), (3, { g := some false }), (4, { g := some false }), (5, { g := some false }), (6, { g := some false }), (7, { g := some false }), (8, { g := some false }), (9, { g := some false }), (10, { g := some false })], [], []⟩ (told0 _ _) [0, 1, 3, 7, 7, 23, 63, 127, 7, 511, 1023, 2047] 9 rfl ?_ ?_; rotate_left 1)
                · repeat first | refine lwp_seq fun K hK => ?_ | ((with_reducible refine gA ?_); apply_assumption -exfalso -symm) | refine gB ?_ | refine gC ?_ | refine gD ?_ | refine gE ?_ | refine gF rfl ?_ | refine gG rfl ?_ | refine gH ?_ | refine gI ?_ | refine gJ ?_ | refine gK ?_ | refine gL ?_ | refine gM hC rfl ⟨⟩ ?_ | refine gM hC rfl (by exact sd) ?_
                  (refine lwp_cond hC rfl (by first | exact ⟨⟩ | exact sd) (fun hb => ?_) (fun hb => ?_) <;> (try simp only [decide_eq_true_eq, decide_eq_false_iff_not, Bool.not_eq_true', Bool.not_eq_false', ne_eq, Decidable.not_not] at hb))
                  · exact absurd hb (by decide)
                  · repeat first | refine lwp_seq fun K hK => ?_ | ((with_reducible refine gA ?_); apply_assumption -exfalso -symm) | refine gB ?_ | refine gC ?_ | refine gD ?_ | refine gE ?_ | refine gF rfl ?_ | refine gG rfl ?_ | refine gH ?_ | refine gI ?_ | refine gJ ?_ | refine gK ?_ | refine gL ?_ | refine gM hC rfl ⟨⟩ ?_ | refine gM hC rfl (by exact sd) ?_
                    refine gA ⟨k + 1, ?_, ?_, sub_intro hm [(0, some 0), (1, some 1), (2, some 2), (3, some 3)] rfl ?_⟩
                    · refine ⟨by omega, ?_⟩
                      have hl0 : lastPr l k = (-1, -1) := by rw [hk0]; rfl
                      rw [hl0] at hD
                      rw [hf, hl0, hD, if_pos (pairE_first hin hb2)]
                    · omega
                    · exact sd
                · exact sd
              · have hlast : lastPr l k = prAt l ((k : Int) - 1).toNat := by
                  obtain ⟨j, rfl⟩ : ∃ j, k = j + 1 := ⟨k - 1, by omega⟩
                  have : (((j + 1 : Nat) : Int) - 1).toNat = j := by omega
                  rw [this]; rfl
                rw [hlast] at hD
                repeat first | refine lwp_seq fun K hK => ?_ | ((with_reducible refine gA ?_); apply_assumption -exfalso -symm) | refine gB ?_ | refine gC ?_ | refine gD ?_ | refine gE ?_ | refine gF rfl ?_ | refine gG rfl ?_ | refine gH ?_ | refine gI ?_ | refine gJ ?_ | refine gK ?_ | refine gL ?_ | refine gM hC rfl ⟨⟩ ?_ | refine gM hC rfl (by exact sd) ?_
                (refine lwp_drawn hC (by rw [hP]; exact mixed) ⟨[(2, { b := some true })], [], [(9, After_i (prAt l ((k : Int) - 1).toNat) (prAt l k))]⟩ (told1 _ (by rw [hP]; exact (calls_cons (After_s _ _) calls_nil))) [0, 1, 3, 7, 7, 23, 63, 127, 7, 511, 1023, 2047] 9 rfl ?_ ?_; rotate_left 1)
                · repeat first | refine lwp_seq fun K hK => ?_ | ((with_reducible refine gA ?_); apply_assumption -exfalso -symm) | refine gB ?_ | refine gC ?_ | refine gD ?_ | refine gE ?_ | refine gF rfl ?_ | refine gG rfl ?_ | refine gH ?_ | refine gI ?_ | refine gJ ?_ | refine gK ?_ | refine gL ?_ | refine gM hC rfl ⟨⟩ ?_ | refine gM hC rfl (by exact sd) ?_
                  (refine lwp_cond hC rfl (by first | exact ⟨⟩ | exact sd) (fun hb => ?_) (fun hb => ?_) <;> (try simp only [decide_eq_true_eq, decide_eq_false_iff_not, Bool.not_eq_true', Bool.not_eq_false', ne_eq, Decidable.not_not] at hb))
                  · have hb3 : afterS (prAt l ((k : Int) - 1).toNat) (prAt l k) = false := by simpa using hb
                    repeat first | refine lwp_seq fun K hK => ?_ | ((with_reducible refine gA ?_); apply_assumption -exfalso -symm) | refine gB ?_ | refine gC ?_ | refine gD ?_ | refine gE ?_ | refine gF rfl ?_ | refine gG rfl ?_ | refine gH ?_ | refine gI ?_ | refine gJ ?_ | refine gK ?_ | refine gL ?_ | refine gM hC rfl ⟨⟩ ?_ | refine gM hC rfl (by exact sd) ?_
                    (refine end_intro (by first | exact .inr rfl | exact .inl rfl) [] rfl ?_)
                    refine ⟨?_, trivial⟩
                    show rpairsS m s l = 11
                    unfold rpairsS
                    rw [if_neg (by omega), hf, hlast, hD, pairE_after hb2, hb3]
                    rfl
                  · have hb3 : afterS (prAt l ((k : Int) - 1).toNat) (prAt l k) = true := by simpa using hb
                    repeat first | refine lwp_seq fun K hK => ?_ | ((with_reducible refine gA ?_); apply_assumption -exfalso -symm) | refine gB ?_ | refine gC ?_ | refine gD ?_ | refine gE ?_ | refine gF rfl ?_ | refine gG rfl ?_ | refine gH ?_ | refine gI ?_ | refine gJ ?_ | refine gK ?_ | refine gL ?_ | refine gM hC rfl ⟨⟩ ?_ | refine gM hC rfl (by exact sd) ?_
                    refine gA ⟨k + 1, ?_, ?_, sub_intro hm [(0, some 0), (1, some 1), (2, some 2), (3, some 3)] rfl ?_⟩
                    · refine ⟨by omega, ?_⟩
                      rw [hf, hlast, hD, pairE_after hb2, hb3]
                      rfl
                    · omega
                    · exact sd
                · exact sd
          · exact sd
      · repeat first | refine lwp_seq fun K hK => ?_ | ((with_reducible refine gA ?_); apply_assumption -exfalso -symm) | refine gB ?_ | refine gC ?_ | refine gD ?_ | refine gE ?_ | refine gF rfl ?_ | refine gG rfl ?_ | refine gH ?_ | refine gI ?_ | refine gJ ?_ | refine gK ?_ | refine gL ?_ | refine gM hC rfl ⟨⟩ ?_ | refine gM hC rfl (by exact sd) ?_
        (refine end_intro (by first | exact .inr rfl | exact .inl rfl) [] rfl ?_)
        refine ⟨?_, trivial⟩
        show rpairsS m s l = 0
        unfold rpairsS
        rw [if_neg (by omega), hf, List.drop_of_length_le (by omega)]
        rfl

end Go.Proofs.YtfmnfagcbehmdaaGreatDoor
