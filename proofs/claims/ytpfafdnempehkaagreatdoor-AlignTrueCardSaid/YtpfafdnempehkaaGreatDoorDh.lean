/- Chapter 5: the reference's check of a ride and of costs. -/
import Derived.Test.YtpfafdnempehkaaGreatDoorDg
set_option linter.unusedVariables false
set_option linter.unusedSimpArgs false
namespace Go.Proofs.YtpfafdnempehkaaGreatDoor
open Go.RowKit Go.Sym

def rthS (s : ByteArray) (n before : Int) (is : Bool) : Int := firstS [whenS (decide (whenS (!nameOk s) 8 ≠ 0)) 13, withinS n 0 100000000, whenS (bif is then decide (n ≤ before) else false) 11]
def RThing_i (s : ByteArray) (n before : Int) (is : Bool) : Inst := { f := 37, hin := [], args := [.lit (.string s), i64 n, i64 before, bl is], hout := [], ret := i64 (rthS s n before is), σ := [] }
set_option maxRecDepth 20000 in
theorem RThing_s (s : ByteArray) (n before : Int) (is : Bool) (hs : s.size ≤ 1000000) : (RThing_i s n before is).ok Tryz.prog := by
  unfold RThing_i Inst.ok; dsimp only; refine spec_of_body (tys := tys) 0 Tryz.func37 (by kernel_rfl) rfl tys_ok rfl (Nat.le_of_ble_eq_true rfl) (fun _ _ h => (by cases h)) fun F hP hm hC hrd => ?_; conv => whnf
  (repeat (first | (refine lwp_seq fun K hK => ?_) | (refine thenS_normal ?_; apply_assumption -exfalso -symm) | (refine thenS_exit ?_) | (refine thenS_ret ?_) | (refine inBlockS_normal ?_) | (refine inBlockS_ret ?_) | (refine inBlockS_hit rfl ?_) | (refine inBlockS_miss rfl ?_) | (refine lwp_block ?_) | (refine lwp_skip ?_) | (refine lwp_exit ?_) | (refine lwp_ret ?_) | (refine lwp_label ?_) | (refine lwp_region hC ⟨[], [], []⟩ (told0 _ _) rfl True.intro ?_) | (refine lwp_region hC ⟨[], [], []⟩ (told0 _ _) rfl (by ((try simp only [AllL, All, cd_p, cp_p, cv_p, InK, and_true, true_and]); all_goals ((repeat' (first | refine And.intro ?_ ?_ | intro _)) <;> first | omega | exact True.intro | assumption | (simp; done) | rfl | (simp_all; done) | (simp_all; omega)))) ?_)))
  (refine lwp_region hC ⟨[], [], [(1, CheckName_i s), (3, When_i (decide (whenS (!nameOk s) 8 ≠ 0)) 13), (5, CheckRange_i n 0 100000000), (12, When_i (bif is then decide (n ≤ before) else false) 11), (14, First_i [whenS (decide (whenS (!nameOk s) 8 ≠ 0)) 13, withinS n 0 100000000, whenS (bif is then decide (n ≤ before) else false) 11] [(0, some 0)])]⟩ (told1 _ (by rw [hP]; exact (calls_cons (CheckName_s s hs) (calls_cons (When_s _ _) (calls_cons (CheckRange_s _ _ _) (calls_cons (When_s _ _) (calls_cons (First_s _ _ (by simp)) calls_nil))))))) rfl ?_ ?_; rotate_left 1)
  · (repeat (first | (refine lwp_seq fun K hK => ?_) | (refine thenS_normal ?_; apply_assumption -exfalso -symm) | (refine thenS_exit ?_) | (refine thenS_ret ?_) | (refine inBlockS_normal ?_) | (refine inBlockS_ret ?_) | (refine inBlockS_hit rfl ?_) | (refine inBlockS_miss rfl ?_) | (refine lwp_block ?_) | (refine lwp_skip ?_) | (refine lwp_exit ?_) | (refine lwp_ret ?_) | (refine lwp_label ?_) | (refine lwp_region hC ⟨[], [], []⟩ (told0 _ _) rfl True.intro ?_) | (refine lwp_region hC ⟨[], [], []⟩ (told0 _ _) rfl (by ((try simp only [AllL, All, cd_p, cp_p, cv_p, InK, and_true, true_and]); all_goals ((repeat' (first | refine And.intro ?_ ?_ | intro _)) <;> first | omega | exact True.intro | assumption | (simp; done) | rfl | (simp_all; done) | (simp_all; omega)))) ?_)))
    (refine end_intro (by first | exact .inr rfl | exact .inl rfl) [] rfl ?_)
    exact ⟨rfl, trivial⟩
  · ((try simp only [AllL, All, cd_p, cp_p, cv_p, InK, and_true, true_and]); all_goals ((repeat' (first | refine And.intro ?_ ?_ | intro _)) <;> first | omega | exact True.intro | assumption | (simp; done) | rfl | (simp_all; done) | (simp_all; omega)))

def beforeI (k : Nat) : Nat := (if (k : Int) - 1 > 0 then (k : Int) - 1 else 0).toNat
theorem rth_eq (l : List Th) (k : Nat) (hk : k < l.length) : rthS (l.getD k thD).kind (l.getD k thD).place (l.getD (beforeI k) thD).place (decide ((k : Int) > 0)) = thS (l.getD k thD) (lastP l k) := by
  unfold rthS thS
  have e1 : decide (whenS (!nameOk (l.getD k thD).kind) 8 ≠ 0) = !nameOk (l.getD k thD).kind := by
    unfold whenS; cases nameOk (l.getD k thD).kind <;> rfl
  rw [e1]
  cases k with
  | zero =>
    by_cases hn : withinS (l.getD 0 thD).place 0 100000000 = 0
    · have := (withinS_zero.1 hn).1
      have e2 : decide ((l.getD 0 thD).place ≤ lastP l 0) = false := decide_eq_false (by show ¬ (l.getD 0 thD).place ≤ (-1 : Int); omega)
      rw [e2]
      rfl
    · simp only [firstS, hn, if_false]
  | succ j =>
    have e2 : decide (((j + 1 : Nat) : Int) > 0) = true := decide_eq_true (by omega)
    have e3 : beforeI (j + 1) = j := by unfold beforeI; split <;> omega
    rw [e2, e3]
    rfl
theorem before_lt {l : List Th} {k : Nat} (hk : k < l.length) : beforeI k < l.length := by unfold beforeI; split <;> omega

def kindsOk (l : List Th) : Prop := ∀ i : Nat, (l.getD i thD).kind.size ≤ 1000000
def RRide_i (m s : List Th) (σ : Ren) : Inst := { f := 6, hin := rideIn m s, args := [rdA m s], hout := [], ret := i64 (rideS m s), σ := σ }
set_option maxRecDepth 20000 in
set_option maxHeartbeats 4000000 in
theorem RRide_s (m s : List Th) (σ : Ren) (hm' : m.length ≤ 1000000) (hs : s.length ≤ 1000000) (km : kindsOk m) (ks : kindsOk s) : (RRide_i m s σ).ok Tryz.prog := by
  unfold RRide_i Inst.ok; dsimp only; refine spec_of_body (tys := tys) 2 Tryz.func6 (by kernel_rfl) rfl tys_ok rfl (Nat.le_of_ble_eq_true rfl) (fun _ _ h => (by cases h)) fun F hP hm hC hrd => ?_; conv => whnf
  (repeat (first | (refine lwp_seq fun K hK => ?_) | (refine thenS_normal ?_; apply_assumption -exfalso -symm) | (refine thenS_exit ?_) | (refine thenS_ret ?_) | (refine inBlockS_normal ?_) | (refine inBlockS_ret ?_) | (refine inBlockS_hit rfl ?_) | (refine inBlockS_miss rfl ?_) | (refine lwp_block ?_) | (refine lwp_skip ?_) | (refine lwp_exit ?_) | (refine lwp_ret ?_) | (refine lwp_label ?_) | (refine lwp_region hC ⟨[], [], []⟩ (told0 _ _) rfl True.intro ?_) | (refine lwp_region hC ⟨[], [], []⟩ (told0 _ _) rfl (by ((try simp only [AllL, All, cd_p, cp_p, cv_p, InK, and_true, true_and]); all_goals ((repeat' (first | refine And.intro ?_ ?_ | intro _)) <;> first | omega | exact True.intro | assumption | (simp; done) | rfl | (simp_all; done) | (simp_all; omega)))) ?_)))
  (refine lwp_cond hC rfl (by first | exact True.intro | ((try simp only [AllL, All, cd_p, cp_p, cv_p, InK, and_true, true_and]); all_goals ((repeat' (first | refine And.intro ?_ ?_ | intro _)) <;> first | omega | exact True.intro | assumption | (simp; done) | rfl | (simp_all; done) | (simp_all; omega)))) (fun hb => ?_) (fun hb => ?_) <;> (try simp only [decide_eq_true_eq, decide_eq_false_iff_not, Bool.not_eq_true', Bool.not_eq_false', ne_eq, Decidable.not_not] at hb))
  · (repeat (first | (refine lwp_seq fun K hK => ?_) | (refine thenS_normal ?_; apply_assumption -exfalso -symm) | (refine thenS_exit ?_) | (refine thenS_ret ?_) | (refine inBlockS_normal ?_) | (refine inBlockS_ret ?_) | (refine inBlockS_hit rfl ?_) | (refine inBlockS_miss rfl ?_) | (refine lwp_block ?_) | (refine lwp_skip ?_) | (refine lwp_exit ?_) | (refine lwp_ret ?_) | (refine lwp_label ?_) | (refine lwp_region hC ⟨[], [], []⟩ (told0 _ _) rfl True.intro ?_) | (refine lwp_region hC ⟨[], [], []⟩ (told0 _ _) rfl (by ((try simp only [AllL, All, cd_p, cp_p, cv_p, InK, and_true, true_and]); all_goals ((repeat' (first | refine And.intro ?_ ?_ | intro _)) <;> first | omega | exact True.intro | assumption | (simp; done) | rfl | (simp_all; done) | (simp_all; omega)))) ?_)))
    (refine end_intro (by first | exact .inr rfl | exact .inl rfl) [] rfl ?_)
    refine ⟨?_, trivial⟩
    show rideS m s = 5
    unfold rideS checkS
    rw [if_pos (by omega)]
    rfl
  · (repeat (first | (refine lwp_seq fun K hK => ?_) | (refine thenS_normal ?_; apply_assumption -exfalso -symm) | (refine thenS_exit ?_) | (refine thenS_ret ?_) | (refine inBlockS_normal ?_) | (refine inBlockS_ret ?_) | (refine inBlockS_hit rfl ?_) | (refine inBlockS_miss rfl ?_) | (refine lwp_block ?_) | (refine lwp_skip ?_) | (refine lwp_exit ?_) | (refine lwp_ret ?_) | (refine lwp_label ?_) | (refine lwp_region hC ⟨[], [], []⟩ (told0 _ _) rfl True.intro ?_) | (refine lwp_region hC ⟨[], [], []⟩ (told0 _ _) rfl (by ((try simp only [AllL, All, cd_p, cp_p, cv_p, InK, and_true, true_and]); all_goals ((repeat' (first | refine And.intro ?_ ?_ | intro _)) <;> first | omega | exact True.intro | assumption | (simp; done) | rfl | (simp_all; done) | (simp_all; omega)))) ?_)))
    refine lwp_loop (fun k : Nat => ⟨[(3, i64 k), (1, .ptr 2 0 0 0)], [(2, .blk 34 [.sl 0 m.length, .sl 1 s.length]), (0, .ro m.length 2 (thC m)), (1, .ro s.length 2 (thC s))], 3⟩) (fun k => k ≤ m.length ∧ thingsS m (-1) = thingsS (m.drop k) (lastP m k)) (fun k => m.length - k) 0 ⟨?_, sub_intro hm [(0, some 0), (1, some 1), (2, some 2)] rfl ?_⟩ ?_
    · exact ⟨Nat.zero_le _, rfl⟩
    · ((try simp only [AllL, All, cd_p, cp_p, cv_p, InK, and_true, true_and]); all_goals ((repeat' (first | refine And.intro ?_ ?_ | intro _)) <;> first | omega | exact True.intro | assumption | (simp; done) | rfl | (simp_all; done) | (simp_all; omega)))
    · rintro k ⟨hk, hf⟩
      (repeat (first | (refine lwp_seq fun K hK => ?_) | (refine thenS_normal ?_; apply_assumption -exfalso -symm) | (refine thenS_exit ?_) | (refine thenS_ret ?_) | (refine inBlockS_normal ?_) | (refine inBlockS_ret ?_) | (refine inBlockS_hit rfl ?_) | (refine inBlockS_miss rfl ?_) | (refine lwp_block ?_) | (refine lwp_skip ?_) | (refine lwp_exit ?_) | (refine lwp_ret ?_) | (refine lwp_label ?_) | (refine lwp_region hC ⟨[], [], []⟩ (told0 _ _) rfl True.intro ?_) | (refine lwp_region hC ⟨[], [], []⟩ (told0 _ _) rfl (by ((try simp only [AllL, All, cd_p, cp_p, cv_p, InK, and_true, true_and]); all_goals ((repeat' (first | refine And.intro ?_ ?_ | intro _)) <;> first | omega | exact True.intro | assumption | (simp; done) | rfl | (simp_all; done) | (simp_all; omega)))) ?_)))
      (refine lwp_cond hC rfl (by first | exact True.intro | ((try simp only [AllL, All, cd_p, cp_p, cv_p, InK, and_true, true_and]); all_goals ((repeat' (first | refine And.intro ?_ ?_ | intro _)) <;> first | omega | exact True.intro | assumption | (simp; done) | rfl | (simp_all; done) | (simp_all; omega)))) (fun hb => ?_) (fun hb => ?_) <;> (try simp only [decide_eq_true_eq, decide_eq_false_iff_not, Bool.not_eq_true', Bool.not_eq_false', ne_eq, Decidable.not_not] at hb))
      · have hkm : k < m.length := by omega
        have hbm : (if (k : Int) - 1 > 0 then (k : Int) - 1 else 0).toNat < m.length := before_lt hkm
        have h00 : 0 ≤ (if (k : Int) - 1 > 0 then (k : Int) - 1 else 0) := by split <;> omega
        (repeat (first | (refine lwp_seq fun K hK => ?_) | (refine thenS_normal ?_; apply_assumption -exfalso -symm) | (refine thenS_exit ?_) | (refine thenS_ret ?_) | (refine inBlockS_normal ?_) | (refine inBlockS_ret ?_) | (refine inBlockS_hit rfl ?_) | (refine inBlockS_miss rfl ?_) | (refine lwp_block ?_) | (refine lwp_skip ?_) | (refine lwp_exit ?_) | (refine lwp_ret ?_) | (refine lwp_label ?_) | (refine lwp_region hC ⟨[], [], []⟩ (told0 _ _) rfl True.intro ?_) | (refine lwp_region hC ⟨[], [], []⟩ (told0 _ _) rfl (by ((try simp only [AllL, All, cd_p, cp_p, cv_p, InK, and_true, true_and]); all_goals ((repeat' (first | refine And.intro ?_ ?_ | intro _)) <;> first | omega | exact True.intro | assumption | (simp; done) | rfl | (simp_all; done) | (simp_all; omega)))) ?_)))
        (refine lwp_drawn2 hC (by rw [hP]; exact mixed) ⟨[], [], [(22, RThing_i (m.getD k thD).kind (m.getD k thD).place (m.getD (beforeI k) thD).place (decide ((k : Int) > 0)))]⟩ (told1 _ (by rw [hP]; exact (calls_cons (RThing_s _ _ _ _ (km k)) calls_nil))) [0, 1, 0, 7, 15, 31, 0, 64, 0, 448, 960, 1984, 0, 4096, 0, 16384, 49152, 126976, 258048, 520192, 0, 1048576, 4194303, 8388607] 24 0 rfl ?_ ?_; rotate_left 1)
        · (repeat (first | (refine lwp_seq fun K hK => ?_) | (refine thenS_normal ?_; apply_assumption -exfalso -symm) | (refine thenS_exit ?_) | (refine thenS_ret ?_) | (refine inBlockS_normal ?_) | (refine inBlockS_ret ?_) | (refine inBlockS_hit rfl ?_) | (refine inBlockS_miss rfl ?_) | (refine lwp_block ?_) | (refine lwp_skip ?_) | (refine lwp_exit ?_) | (refine lwp_ret ?_) | (refine lwp_label ?_) | (refine lwp_region hC ⟨[], [], []⟩ (told0 _ _) rfl True.intro ?_) | (refine lwp_region hC ⟨[], [], []⟩ (told0 _ _) rfl (by ((try simp only [AllL, All, cd_p, cp_p, cv_p, InK, and_true, true_and]); all_goals ((repeat' (first | refine And.intro ?_ ?_ | intro _)) <;> first | omega | exact True.intro | assumption | (simp; done) | rfl | (simp_all; done) | (simp_all; omega)))) ?_)))
          rw [rth_eq m k hkm]
          (refine lwp_cond hC rfl (by first | exact True.intro | ((try simp only [AllL, All, cd_p, cp_p, cv_p, InK, and_true, true_and]); all_goals ((repeat' (first | refine And.intro ?_ ?_ | intro _)) <;> first | omega | exact True.intro | assumption | (simp; done) | rfl | (simp_all; done) | (simp_all; omega)))) (fun hb => ?_) (fun hb => ?_) <;> (try simp only [decide_eq_true_eq, decide_eq_false_iff_not, Bool.not_eq_true', Bool.not_eq_false', ne_eq, Decidable.not_not] at hb))
          · (repeat (first | (refine lwp_seq fun K hK => ?_) | (refine thenS_normal ?_; apply_assumption -exfalso -symm) | (refine thenS_exit ?_) | (refine thenS_ret ?_) | (refine inBlockS_normal ?_) | (refine inBlockS_ret ?_) | (refine inBlockS_hit rfl ?_) | (refine inBlockS_miss rfl ?_) | (refine lwp_block ?_) | (refine lwp_skip ?_) | (refine lwp_exit ?_) | (refine lwp_ret ?_) | (refine lwp_label ?_) | (refine lwp_region hC ⟨[], [], []⟩ (told0 _ _) rfl True.intro ?_) | (refine lwp_region hC ⟨[], [], []⟩ (told0 _ _) rfl (by ((try simp only [AllL, All, cd_p, cp_p, cv_p, InK, and_true, true_and]); all_goals ((repeat' (first | refine And.intro ?_ ?_ | intro _)) <;> first | omega | exact True.intro | assumption | (simp; done) | rfl | (simp_all; done) | (simp_all; omega)))) ?_)))
            (refine end_intro (by first | exact .inr rfl | exact .inl rfl) [] rfl ?_)
            refine ⟨?_, trivial⟩
            show rideS m s = thS (m.getD k thD) (lastP m k)
            unfold rideS checkS
            rw [if_neg (by omega), hf, thingsS_drop m k hkm, if_neg hb]
            simp only [firstS, if_neg hb]
          · (repeat (first | (refine lwp_seq fun K hK => ?_) | (refine thenS_normal ?_; apply_assumption -exfalso -symm) | (refine thenS_exit ?_) | (refine thenS_ret ?_) | (refine inBlockS_normal ?_) | (refine inBlockS_ret ?_) | (refine inBlockS_hit rfl ?_) | (refine inBlockS_miss rfl ?_) | (refine lwp_block ?_) | (refine lwp_skip ?_) | (refine lwp_exit ?_) | (refine lwp_ret ?_) | (refine lwp_label ?_) | (refine lwp_region hC ⟨[], [], []⟩ (told0 _ _) rfl True.intro ?_) | (refine lwp_region hC ⟨[], [], []⟩ (told0 _ _) rfl (by ((try simp only [AllL, All, cd_p, cp_p, cv_p, InK, and_true, true_and]); all_goals ((repeat' (first | refine And.intro ?_ ?_ | intro _)) <;> first | omega | exact True.intro | assumption | (simp; done) | rfl | (simp_all; done) | (simp_all; omega)))) ?_)))
            refine thenS_normal ⟨k + 1, ?_, ?_, sub_intro hm [(0, some 0), (1, some 1), (2, some 2)] rfl ?_⟩
            · exact ⟨by omega, by rw [hf, thingsS_drop m k hkm, if_pos hb]⟩
            · omega
            · ((try simp only [AllL, All, cd_p, cp_p, cv_p, InK, and_true, true_and]); all_goals ((repeat' (first | refine And.intro ?_ ?_ | intro _)) <;> first | omega | exact True.intro | assumption | (simp; done) | rfl | (simp_all; done) | (simp_all; omega)))
        · unfold beforeI
          ((try simp only [AllL, All, cd_p, cp_p, cv_p, InK, and_true, true_and]); all_goals ((repeat' (first | refine And.intro ?_ ?_ | intro _)) <;> first | omega | exact True.intro | assumption | (simp; done) | rfl | (simp_all; done) | (simp_all; omega)))
      · have hM : checkS m = 0 := by
          unfold checkS
          rw [if_neg (by omega), hf, List.drop_of_length_le (by omega)]
          rfl
        (repeat (first | (refine lwp_seq fun K hK => ?_) | (refine thenS_normal ?_; apply_assumption -exfalso -symm) | (refine thenS_exit ?_) | (refine thenS_ret ?_) | (refine inBlockS_normal ?_) | (refine inBlockS_ret ?_) | (refine inBlockS_hit rfl ?_) | (refine inBlockS_miss rfl ?_) | (refine lwp_block ?_) | (refine lwp_skip ?_) | (refine lwp_exit ?_) | (refine lwp_ret ?_) | (refine lwp_label ?_) | (refine lwp_region hC ⟨[], [], []⟩ (told0 _ _) rfl True.intro ?_) | (refine lwp_region hC ⟨[], [], []⟩ (told0 _ _) rfl (by ((try simp only [AllL, All, cd_p, cp_p, cv_p, InK, and_true, true_and]); all_goals ((repeat' (first | refine And.intro ?_ ?_ | intro _)) <;> first | omega | exact True.intro | assumption | (simp; done) | rfl | (simp_all; done) | (simp_all; omega)))) ?_)))
        (refine lwp_cond hC rfl (by first | exact True.intro | ((try simp only [AllL, All, cd_p, cp_p, cv_p, InK, and_true, true_and]); all_goals ((repeat' (first | refine And.intro ?_ ?_ | intro _)) <;> first | omega | exact True.intro | assumption | (simp; done) | rfl | (simp_all; done) | (simp_all; omega)))) (fun hb => ?_) (fun hb => ?_) <;> (try simp only [decide_eq_true_eq, decide_eq_false_iff_not, Bool.not_eq_true', Bool.not_eq_false', ne_eq, Decidable.not_not] at hb))
        · (repeat (first | (refine lwp_seq fun K hK => ?_) | (refine thenS_normal ?_; apply_assumption -exfalso -symm) | (refine thenS_exit ?_) | (refine thenS_ret ?_) | (refine inBlockS_normal ?_) | (refine inBlockS_ret ?_) | (refine inBlockS_hit rfl ?_) | (refine inBlockS_miss rfl ?_) | (refine lwp_block ?_) | (refine lwp_skip ?_) | (refine lwp_exit ?_) | (refine lwp_ret ?_) | (refine lwp_label ?_) | (refine lwp_region hC ⟨[], [], []⟩ (told0 _ _) rfl True.intro ?_) | (refine lwp_region hC ⟨[], [], []⟩ (told0 _ _) rfl (by ((try simp only [AllL, All, cd_p, cp_p, cv_p, InK, and_true, true_and]); all_goals ((repeat' (first | refine And.intro ?_ ?_ | intro _)) <;> first | omega | exact True.intro | assumption | (simp; done) | rfl | (simp_all; done) | (simp_all; omega)))) ?_)))
          (refine end_intro (by first | exact .inr rfl | exact .inl rfl) [] rfl ?_)
          refine ⟨?_, trivial⟩
          show rideS m s = 5
          unfold rideS
          rw [hM]
          unfold checkS
          rw [if_pos (by omega)]
          rfl
        · have hb64 := hb
          clear hb
          (repeat (first | (refine lwp_seq fun K hK => ?_) | (refine thenS_normal ?_; apply_assumption -exfalso -symm) | (refine thenS_exit ?_) | (refine thenS_ret ?_) | (refine inBlockS_normal ?_) | (refine inBlockS_ret ?_) | (refine inBlockS_hit rfl ?_) | (refine inBlockS_miss rfl ?_) | (refine lwp_block ?_) | (refine lwp_skip ?_) | (refine lwp_exit ?_) | (refine lwp_ret ?_) | (refine lwp_label ?_) | (refine lwp_region hC ⟨[], [], []⟩ (told0 _ _) rfl True.intro ?_) | (refine lwp_region hC ⟨[], [], []⟩ (told0 _ _) rfl (by ((try simp only [AllL, All, cd_p, cp_p, cv_p, InK, and_true, true_and]); all_goals ((repeat' (first | refine And.intro ?_ ?_ | intro _)) <;> first | omega | exact True.intro | assumption | (simp; done) | rfl | (simp_all; done) | (simp_all; omega)))) ?_)))
          refine lwp_loop (fun k : Nat => ⟨[(5, i64 k), (1, .ptr 2 0 0 0)], [(2, .blk 34 [.sl 0 m.length, .sl 1 s.length]), (0, .ro m.length 2 (thC m)), (1, .ro s.length 2 (thC s))], 3⟩) (fun k => k ≤ s.length ∧ thingsS s (-1) = thingsS (s.drop k) (lastP s k)) (fun k => s.length - k) 0 ⟨?_, sub_intro hm [(0, some 0), (1, some 1), (2, some 2)] rfl ?_⟩ ?_
          · exact ⟨Nat.zero_le _, rfl⟩
          · ((try simp only [AllL, All, cd_p, cp_p, cv_p, InK, and_true, true_and]); all_goals ((repeat' (first | refine And.intro ?_ ?_ | intro _)) <;> first | omega | exact True.intro | assumption | (simp; done) | rfl | (simp_all; done) | (simp_all; omega)))
          · clear hk hf
            rintro k ⟨hk, hf⟩
            (repeat (first | (refine lwp_seq fun K hK => ?_) | (refine thenS_normal ?_; apply_assumption -exfalso -symm) | (refine thenS_exit ?_) | (refine thenS_ret ?_) | (refine inBlockS_normal ?_) | (refine inBlockS_ret ?_) | (refine inBlockS_hit rfl ?_) | (refine inBlockS_miss rfl ?_) | (refine lwp_block ?_) | (refine lwp_skip ?_) | (refine lwp_exit ?_) | (refine lwp_ret ?_) | (refine lwp_label ?_) | (refine lwp_region hC ⟨[], [], []⟩ (told0 _ _) rfl True.intro ?_) | (refine lwp_region hC ⟨[], [], []⟩ (told0 _ _) rfl (by ((try simp only [AllL, All, cd_p, cp_p, cv_p, InK, and_true, true_and]); all_goals ((repeat' (first | refine And.intro ?_ ?_ | intro _)) <;> first | omega | exact True.intro | assumption | (simp; done) | rfl | (simp_all; done) | (simp_all; omega)))) ?_)))
            (refine lwp_cond hC rfl (by first | exact True.intro | ((try simp only [AllL, All, cd_p, cp_p, cv_p, InK, and_true, true_and]); all_goals ((repeat' (first | refine And.intro ?_ ?_ | intro _)) <;> first | omega | exact True.intro | assumption | (simp; done) | rfl | (simp_all; done) | (simp_all; omega)))) (fun hb => ?_) (fun hb => ?_) <;> (try simp only [decide_eq_true_eq, decide_eq_false_iff_not, Bool.not_eq_true', Bool.not_eq_false', ne_eq, Decidable.not_not] at hb))
            · have hkm : k < s.length := by omega
              have hbm : (if (k : Int) - 1 > 0 then (k : Int) - 1 else 0).toNat < s.length := before_lt hkm
              have h00 : 0 ≤ (if (k : Int) - 1 > 0 then (k : Int) - 1 else 0) := by split <;> omega
              (repeat (first | (refine lwp_seq fun K hK => ?_) | (refine thenS_normal ?_; apply_assumption -exfalso -symm) | (refine thenS_exit ?_) | (refine thenS_ret ?_) | (refine inBlockS_normal ?_) | (refine inBlockS_ret ?_) | (refine inBlockS_hit rfl ?_) | (refine inBlockS_miss rfl ?_) | (refine lwp_block ?_) | (refine lwp_skip ?_) | (refine lwp_exit ?_) | (refine lwp_ret ?_) | (refine lwp_label ?_) | (refine lwp_region hC ⟨[], [], []⟩ (told0 _ _) rfl True.intro ?_) | (refine lwp_region hC ⟨[], [], []⟩ (told0 _ _) rfl (by ((try simp only [AllL, All, cd_p, cp_p, cv_p, InK, and_true, true_and]); all_goals ((repeat' (first | refine And.intro ?_ ?_ | intro _)) <;> first | omega | exact True.intro | assumption | (simp; done) | rfl | (simp_all; done) | (simp_all; omega)))) ?_)))
              (refine lwp_drawn2 hC (by rw [hP]; exact mixed) ⟨[], [], [(22, RThing_i (s.getD k thD).kind (s.getD k thD).place (s.getD (beforeI k) thD).place (decide ((k : Int) > 0)))]⟩ (told1 _ (by rw [hP]; exact (calls_cons (RThing_s _ _ _ _ (ks k)) calls_nil))) [0, 1, 0, 7, 15, 31, 0, 64, 0, 448, 960, 1984, 0, 4096, 0, 16384, 49152, 126976, 258048, 520192, 0, 1048576, 4194303, 8388607] 24 0 rfl ?_ ?_; rotate_left 1)
              · (repeat (first | (refine lwp_seq fun K hK => ?_) | (refine thenS_normal ?_; apply_assumption -exfalso -symm) | (refine thenS_exit ?_) | (refine thenS_ret ?_) | (refine inBlockS_normal ?_) | (refine inBlockS_ret ?_) | (refine inBlockS_hit rfl ?_) | (refine inBlockS_miss rfl ?_) | (refine lwp_block ?_) | (refine lwp_skip ?_) | (refine lwp_exit ?_) | (refine lwp_ret ?_) | (refine lwp_label ?_) | (refine lwp_region hC ⟨[], [], []⟩ (told0 _ _) rfl True.intro ?_) | (refine lwp_region hC ⟨[], [], []⟩ (told0 _ _) rfl (by ((try simp only [AllL, All, cd_p, cp_p, cv_p, InK, and_true, true_and]); all_goals ((repeat' (first | refine And.intro ?_ ?_ | intro _)) <;> first | omega | exact True.intro | assumption | (simp; done) | rfl | (simp_all; done) | (simp_all; omega)))) ?_)))
                rw [rth_eq s k hkm]
                (refine lwp_cond hC rfl (by first | exact True.intro | ((try simp only [AllL, All, cd_p, cp_p, cv_p, InK, and_true, true_and]); all_goals ((repeat' (first | refine And.intro ?_ ?_ | intro _)) <;> first | omega | exact True.intro | assumption | (simp; done) | rfl | (simp_all; done) | (simp_all; omega)))) (fun hb => ?_) (fun hb => ?_) <;> (try simp only [decide_eq_true_eq, decide_eq_false_iff_not, Bool.not_eq_true', Bool.not_eq_false', ne_eq, Decidable.not_not] at hb))
                · (repeat (first | (refine lwp_seq fun K hK => ?_) | (refine thenS_normal ?_; apply_assumption -exfalso -symm) | (refine thenS_exit ?_) | (refine thenS_ret ?_) | (refine inBlockS_normal ?_) | (refine inBlockS_ret ?_) | (refine inBlockS_hit rfl ?_) | (refine inBlockS_miss rfl ?_) | (refine lwp_block ?_) | (refine lwp_skip ?_) | (refine lwp_exit ?_) | (refine lwp_ret ?_) | (refine lwp_label ?_) | (refine lwp_region hC ⟨[], [], []⟩ (told0 _ _) rfl True.intro ?_) | (refine lwp_region hC ⟨[], [], []⟩ (told0 _ _) rfl (by ((try simp only [AllL, All, cd_p, cp_p, cv_p, InK, and_true, true_and]); all_goals ((repeat' (first | refine And.intro ?_ ?_ | intro _)) <;> first | omega | exact True.intro | assumption | (simp; done) | rfl | (simp_all; done) | (simp_all; omega)))) ?_)))
                  (refine end_intro (by first | exact .inr rfl | exact .inl rfl) [] rfl ?_)
                  refine ⟨?_, trivial⟩
                  show rideS m s = thS (s.getD k thD) (lastP s k)
                  unfold rideS
                  rw [hM]
                  unfold checkS
                  rw [if_neg (by omega), hf, thingsS_drop s k hkm, if_neg hb]
                  simp only [firstS, if_neg hb]
                  rfl
                · (repeat (first | (refine lwp_seq fun K hK => ?_) | (refine thenS_normal ?_; apply_assumption -exfalso -symm) | (refine thenS_exit ?_) | (refine thenS_ret ?_) | (refine inBlockS_normal ?_) | (refine inBlockS_ret ?_) | (refine inBlockS_hit rfl ?_) | (refine inBlockS_miss rfl ?_) | (refine lwp_block ?_) | (refine lwp_skip ?_) | (refine lwp_exit ?_) | (refine lwp_ret ?_) | (refine lwp_label ?_) | (refine lwp_region hC ⟨[], [], []⟩ (told0 _ _) rfl True.intro ?_) | (refine lwp_region hC ⟨[], [], []⟩ (told0 _ _) rfl (by ((try simp only [AllL, All, cd_p, cp_p, cv_p, InK, and_true, true_and]); all_goals ((repeat' (first | refine And.intro ?_ ?_ | intro _)) <;> first | omega | exact True.intro | assumption | (simp; done) | rfl | (simp_all; done) | (simp_all; omega)))) ?_)))
                  refine thenS_normal ⟨k + 1, ?_, ?_, sub_intro hm [(0, some 0), (1, some 1), (2, some 2)] rfl ?_⟩
                  · exact ⟨by omega, by rw [hf, thingsS_drop s k hkm, if_pos hb]⟩
                  · omega
                  · ((try simp only [AllL, All, cd_p, cp_p, cv_p, InK, and_true, true_and]); all_goals ((repeat' (first | refine And.intro ?_ ?_ | intro _)) <;> first | omega | exact True.intro | assumption | (simp; done) | rfl | (simp_all; done) | (simp_all; omega)))
              · unfold beforeI
                ((try simp only [AllL, All, cd_p, cp_p, cv_p, InK, and_true, true_and]); all_goals ((repeat' (first | refine And.intro ?_ ?_ | intro _)) <;> first | omega | exact True.intro | assumption | (simp; done) | rfl | (simp_all; done) | (simp_all; omega)))
            · (repeat (first | (refine lwp_seq fun K hK => ?_) | (refine thenS_normal ?_; apply_assumption -exfalso -symm) | (refine thenS_exit ?_) | (refine thenS_ret ?_) | (refine inBlockS_normal ?_) | (refine inBlockS_ret ?_) | (refine inBlockS_hit rfl ?_) | (refine inBlockS_miss rfl ?_) | (refine lwp_block ?_) | (refine lwp_skip ?_) | (refine lwp_exit ?_) | (refine lwp_ret ?_) | (refine lwp_label ?_) | (refine lwp_region hC ⟨[], [], []⟩ (told0 _ _) rfl True.intro ?_) | (refine lwp_region hC ⟨[], [], []⟩ (told0 _ _) rfl (by ((try simp only [AllL, All, cd_p, cp_p, cv_p, InK, and_true, true_and]); all_goals ((repeat' (first | refine And.intro ?_ ?_ | intro _)) <;> first | omega | exact True.intro | assumption | (simp; done) | rfl | (simp_all; done) | (simp_all; omega)))) ?_)))
              (refine end_intro (by first | exact .inr rfl | exact .inl rfl) [] rfl ?_)
              refine ⟨?_, trivial⟩
              show rideS m s = 0
              unfold rideS
              rw [hM]
              unfold checkS
              rw [if_neg (by omega), hf, List.drop_of_length_le (by omega)]
              rfl

end Go.Proofs.YtpfafdnempehkaaGreatDoor
