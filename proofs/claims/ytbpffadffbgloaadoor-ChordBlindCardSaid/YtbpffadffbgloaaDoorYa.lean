/- Contracts: Repeated of the program and of the reference, CheckPlaces. -/
import Derived.Test.YtbpffadffbgloaaDoorWh
import Derived.Test.YtbpffadffbgloaaDoorRd
set_option linter.unusedVariables false
set_option linter.unusedSimpArgs false
namespace Go.Proofs.YtbpffadffbgloaaDoor
open Go.RowKit Go.Sym

/-- A wave, so many places of it. -/
def repsL (l : List Int) (n : Nat) : List Int := (List.range n).map fun (i : Nat) => l.getD (i % l.length) 0
theorem repsL_len (l : List Int) (n : Nat) : (repsL l n).length = n := by simp [repsL]
theorem repsL_succ (l : List Int) (n : Nat) : repsL l (n + 1) = repsL l n ++ [l.getD (n % l.length) 0] := by
  unfold repsL; rw [List.range_succ, List.map_append]; rfl
def placesS (f n : Int) : Int := if firstS [withinS f 0 100000000, withinS n 0 4096] ≠ 0 then firstS [withinS f 0 100000000, withinS n 0 4096] else whenS (decide (100000000 < f + n)) 4
def repE (l : List Int) (f n : Int) : Int := firstS [wavesS l, withinS f 0 100000000, withinS n 0 4096]
def RepS (l : List Int) (f n : Int) : Tr × Int := if repE l f n ≠ 0 then (⟨0, [], []⟩, repE l f n) else if 100000000 < f + n then (⟨0, [], []⟩, 4) else (⟨f, repsL l n.toNat, []⟩, 0)
theorem places_ok {f n : Int} (h : placesS f n = 0) : (0 ≤ f ∧ f ≤ 100000000) ∧ (0 ≤ n ∧ n ≤ 4096) ∧ f + n ≤ 100000000 := by
  unfold placesS at h
  by_cases e : firstS [withinS f 0 100000000, withinS n 0 4096] = 0
  · rw [if_neg (by rw [e]; decide), whenS_eq _ _ (by decide), decide_eq_false_iff_not] at h
    rw [firstS_eq] at e
    have e1 := (withinS_eq _ _ _).1 (e (withinS f 0 100000000) (by simp))
    have e2 := (withinS_eq _ _ _).1 (e (withinS n 0 4096) (by simp))
    omega
  · rw [if_pos e] at h; exact absurd h e
theorem firstS_two (a b : Int) : firstS [a, b] = if a = 0 then b else a := by
  by_cases h : a = 0
  · by_cases h2 : b = 0 <;> simp [firstS, h, h2]
  · simp [firstS, h]
theorem firstS_three (a b c : Int) : firstS [a, b, c] = if a = 0 then firstS [b, c] else a := by
  by_cases h : a = 0
  · simp [firstS, h]
  · simp [firstS, h]
/-- The program's errors are those of the reference. -/
theorem RepS_eq (l : List Int) (f n : Int) : RepS l f n = if firstS [wavesS l, placesS f n] ≠ 0 then (⟨0, [], []⟩, firstS [wavesS l, placesS f n]) else (⟨f, repsL l n.toNat, []⟩, 0) := by
  unfold RepS repE
  rw [firstS_two (wavesS l) (placesS f n), firstS_three]
  by_cases hw : wavesS l = 0
  · rw [if_pos hw, if_pos hw]
    unfold placesS
    by_cases e : firstS [withinS f 0 100000000, withinS n 0 4096] = 0
    · have ne : ¬ firstS [withinS f 0 100000000, withinS n 0 4096] ≠ 0 := by rw [e]; decide
      simp only [if_neg ne]
      by_cases h3 : 100000000 < f + n
      · rw [if_pos h3, decide_eq_true h3]; rfl
      · rw [if_neg h3, decide_eq_false h3]; rfl
    · have ne : firstS [withinS f 0 100000000, withinS n 0 4096] ≠ 0 := e
      simp only [if_pos ne]
  · rw [if_neg hw, if_neg hw, if_pos hw, if_pos hw]
def PRepeated_i (l : List Int) (f n : Int) (σ : Ren) : Inst := { f := 52, hin := [(0, .ro l.length 1 (.ints .i64 l))], args := [.sl 0 l.length, i64 f, i64 n], hout := trW 1 (RepS l f n), ret := trR 1 (RepS l f n), σ := σ }
set_option maxRecDepth 20000 in
set_option maxHeartbeats 4000000 in
theorem PRepeated_s (l : List Int) (f n : Int) (σ : Ren) (hl : l.length ≤ 100000) : (PRepeated_i l f n σ).ok Tryd.prog := by
  unfold PRepeated_i Inst.ok; dsimp only; refine spec_of_body (tys := tys) 1 Tryd.func52 (by kernel_rfl) rfl tys_ok rfl (Nat.le_of_ble_eq_true rfl) (fun _ _ h => (by cases h)) fun F hP hm hC => ?_; conv => whnf
  repeat first | refine lwp_seq fun K hK => ?_ | ((with_reducible refine thenS_normal ?_); apply_assumption -exfalso -symm) | refine thenS_exit ?_ | refine thenS_ret ?_ | refine inBlockS_normal ?_ | refine inBlockS_ret ?_ | refine inBlockS_hit rfl ?_ | refine inBlockS_miss rfl ?_ | refine lwp_block ?_ | refine lwp_skip ?_ | refine lwp_exit ?_ | refine lwp_ret ?_ | refine lwp_label ?_ | refine lwp_region hC ⟨[], [], []⟩ (told0 _ _) rfl True.intro ?_
  (refine lwp_region hC ⟨[], [], [(1, PWave_i l [(0, some 0)]), (3, PWithin_i f 0 100000000), (5, PWithin_i n 0 4096), (7, PFirst_i [wavesS l, withinS f 0 100000000, withinS n 0 4096] [(0, some 2)])]⟩ (told1 _ (by rw [hP]; exact (calls_cons (PWave_s _ _ hl) (calls_cons (PWithin_s _ _ _) (calls_cons (PWithin_s _ _ _) (calls_cons (PFirst_s _ _) calls_nil)))))) rfl ?_ ?_; rotate_left 1)
  · repeat first | refine lwp_seq fun K hK => ?_ | ((with_reducible refine thenS_normal ?_); apply_assumption -exfalso -symm) | refine thenS_exit ?_ | refine thenS_ret ?_ | refine inBlockS_normal ?_ | refine inBlockS_ret ?_ | refine inBlockS_hit rfl ?_ | refine inBlockS_miss rfl ?_ | refine lwp_block ?_ | refine lwp_skip ?_ | refine lwp_exit ?_ | refine lwp_ret ?_ | refine lwp_label ?_ | refine lwp_region hC ⟨[], [], []⟩ (told0 _ _) rfl True.intro ?_
    (refine lwp_cond hC rfl (by first | exact True.intro | ((try simp only [AllL, All, cd_p, cp_p, cv_p, InK, and_true, true_and]); all_goals ((repeat' (first | refine And.intro ?_ ?_ | intro _)) <;> first | omega | exact True.intro | assumption | (simp; done) | rfl | (simp_all; done) | (simp_all; omega)))) (fun hb => ?_) (fun hb => ?_) <;> (try simp only [decide_eq_true_eq, decide_eq_false_iff_not, Bool.not_eq_true', Bool.not_eq_false', ne_eq, Decidable.not_not] at hb))
    · have hR : RepS l f n = (⟨0, [], []⟩, repE l f n) := if_pos hb
      repeat first | refine lwp_seq fun K hK => ?_ | ((with_reducible refine thenS_normal ?_); apply_assumption -exfalso -symm) | refine thenS_exit ?_ | refine thenS_ret ?_ | refine inBlockS_normal ?_ | refine inBlockS_ret ?_ | refine inBlockS_hit rfl ?_ | refine inBlockS_miss rfl ?_ | refine lwp_block ?_ | refine lwp_skip ?_ | refine lwp_exit ?_ | refine lwp_ret ?_ | refine lwp_label ?_ | refine lwp_region hC ⟨[], [], []⟩ (told0 _ _) rfl True.intro ?_
      rw [hR]
      unfold repE
      (refine end_intro (by first | exact .inr rfl | exact .inl rfl) [(1, none), (2, none)] rfl ?_)
      ((try simp only [AllL, All, cd_p, cp_p, cv_p, InK, and_true, true_and]); all_goals ((repeat' (first | refine And.intro ?_ ?_ | intro _)) <;> first | omega | exact True.intro | assumption | (simp; done) | rfl | (simp_all; done) | (simp_all; omega)))
    · have hz : repE l f n = 0 := hb
      have hp := hb
      rw [firstS_eq] at hp
      have p1 := wavesS_ok (hp (wavesS l) (by simp))
      have p2 := (withinS_eq _ _ _).1 (hp (withinS f 0 100000000) (by simp))
      have p3 := (withinS_eq _ _ _).1 (hp (withinS n 0 4096) (by simp))
      obtain ⟨p4, p5, _⟩ := p1
      clear hb hp
      repeat first | refine lwp_seq fun K hK => ?_ | ((with_reducible refine thenS_normal ?_); apply_assumption -exfalso -symm) | refine thenS_exit ?_ | refine thenS_ret ?_ | refine inBlockS_normal ?_ | refine inBlockS_ret ?_ | refine inBlockS_hit rfl ?_ | refine inBlockS_miss rfl ?_ | refine lwp_block ?_ | refine lwp_skip ?_ | refine lwp_exit ?_ | refine lwp_ret ?_ | refine lwp_label ?_ | refine lwp_region hC ⟨[], [], []⟩ (told0 _ _) rfl True.intro ?_ | refine lwp_region hC ⟨[], [], []⟩ (told0 _ _) rfl (by ((try simp only [AllL, All, cd_p, cp_p, cv_p, InK, and_true, true_and]); all_goals ((repeat' (first | refine And.intro ?_ ?_ | intro _)) <;> first | omega | exact True.intro | assumption | (simp; done) | rfl | (simp_all; done) | (simp_all; omega)))) ?_
      (refine lwp_cond hC rfl (by first | exact True.intro | ((try simp only [AllL, All, cd_p, cp_p, cv_p, InK, and_true, true_and]); all_goals ((repeat' (first | refine And.intro ?_ ?_ | intro _)) <;> first | omega | exact True.intro | assumption | (simp; done) | rfl | (simp_all; done) | (simp_all; omega)))) (fun hb => ?_) (fun hb => ?_) <;> (try simp only [decide_eq_true_eq, decide_eq_false_iff_not, Bool.not_eq_true', Bool.not_eq_false', ne_eq, Decidable.not_not] at hb))
      · have hR : RepS l f n = (⟨0, [], []⟩, 4) := by unfold RepS; rw [if_neg (by rw [hz]; decide), if_pos hb]
        repeat first | refine lwp_seq fun K hK => ?_ | ((with_reducible refine thenS_normal ?_); apply_assumption -exfalso -symm) | refine thenS_exit ?_ | refine thenS_ret ?_ | refine inBlockS_normal ?_ | refine inBlockS_ret ?_ | refine inBlockS_hit rfl ?_ | refine inBlockS_miss rfl ?_ | refine lwp_block ?_ | refine lwp_skip ?_ | refine lwp_exit ?_ | refine lwp_ret ?_ | refine lwp_label ?_ | refine lwp_region hC ⟨[], [], []⟩ (told0 _ _) rfl True.intro ?_
        rw [hR]
        (refine end_intro (by first | exact .inr rfl | exact .inl rfl) [(1, none), (2, none)] rfl ?_)
        ((try simp only [AllL, All, cd_p, cp_p, cv_p, InK, and_true, true_and]); all_goals ((repeat' (first | refine And.intro ?_ ?_ | intro _)) <;> first | omega | exact True.intro | assumption | (simp; done) | rfl | (simp_all; done) | (simp_all; omega)))
      · obtain ⟨N, rfl⟩ := Int.eq_ofNat_of_zero_le p3.1
        have hR : RepS l f (N : Int) = (⟨f, repsL l N, []⟩, 0) := by unfold RepS; rw [if_neg (by rw [hz]; decide), if_neg hb, Int.toNat_natCast]
        have HR := Lib.hid hR
        clear hR hz hb
        repeat first | refine lwp_seq fun K hK => ?_ | ((with_reducible refine thenS_normal ?_); apply_assumption -exfalso -symm) | refine thenS_exit ?_ | refine thenS_ret ?_ | refine inBlockS_normal ?_ | refine inBlockS_ret ?_ | refine inBlockS_hit rfl ?_ | refine inBlockS_miss rfl ?_ | refine lwp_block ?_ | refine lwp_skip ?_ | refine lwp_exit ?_ | refine lwp_ret ?_ | refine lwp_label ?_ | refine lwp_region hC ⟨[], [], []⟩ (told0 _ _) rfl True.intro ?_
        refine lwp_loop (fun k : Nat => ⟨[(31, i64 k), (30, i64 N), (9, .ptr 2 0 0 0), (6, .ptr 1 0 0 0), (0, .sl 0 l.length)], [(0, .ro l.length 1 (.ints .i64 l)), (1, .blk 30 [i64 0, .lit (.slice none 0 0), .lit (.slice none 0 0)]), (2, .blk 30 [i64 f, .sl 3 (repsL l k).length, .lit (.slice none 0 0)]), (3, .row 3 (repsL l k).length 1 (.ints .i64 (repsL l k)))], 4⟩) (fun k => k ≤ N) (fun k => N - k) 0 ⟨?_, sub_intro hm [(0, some 0), (1, some 1), (2, some 3), (3, none)] rfl ?_⟩ ?_
        · exact Nat.zero_le _
        · ((try simp only [AllL, All, cd_p, cp_p, cv_p, InK, and_true, true_and]); all_goals ((repeat' (first | refine And.intro ?_ ?_ | intro _)) <;> first | omega | exact True.intro | assumption | (simp; done) | rfl | (simp_all; done) | (simp_all; omega)))
        rintro k hk
        have hlk := repsL_len l k
        have HCS := Lib.hid (repsL_succ l k)
        repeat first | refine lwp_seq fun K hK => ?_ | ((with_reducible refine thenS_normal ?_); apply_assumption -exfalso -symm) | refine thenS_exit ?_ | refine thenS_ret ?_ | refine inBlockS_normal ?_ | refine inBlockS_ret ?_ | refine inBlockS_hit rfl ?_ | refine inBlockS_miss rfl ?_ | refine lwp_block ?_ | refine lwp_skip ?_ | refine lwp_exit ?_ | refine lwp_ret ?_ | refine lwp_label ?_ | refine lwp_region hC ⟨[], [], []⟩ (told0 _ _) rfl True.intro ?_
        (refine lwp_cond hC rfl (by first | exact True.intro | ((try simp only [AllL, All, cd_p, cp_p, cv_p, InK, and_true, true_and]); all_goals ((repeat' (first | refine And.intro ?_ ?_ | intro _)) <;> first | omega | exact True.intro | assumption | (simp; done) | rfl | (simp_all; done) | (simp_all; omega)))) (fun hb => ?_) (fun hb => ?_) <;> (try simp only [decide_eq_true_eq, decide_eq_false_iff_not, Bool.not_eq_true', Bool.not_eq_false', ne_eq, Decidable.not_not] at hb))
        · have hk2 : k < N := by omega
          have r1 : (k : Int).tmod (l.length : Int) = ((k % l.length : Nat) : Int) := (Int.ofNat_tmod k l.length).symm
          have r2 : k % l.length < l.length := Nat.mod_lt _ (by omega)
          repeat first | refine lwp_seq fun K hK => ?_ | ((with_reducible refine thenS_normal ?_); apply_assumption -exfalso -symm) | refine thenS_exit ?_ | refine thenS_ret ?_ | refine inBlockS_normal ?_ | refine inBlockS_ret ?_ | refine inBlockS_hit rfl ?_ | refine inBlockS_miss rfl ?_ | refine lwp_block ?_ | refine lwp_skip ?_ | refine lwp_exit ?_ | refine lwp_ret ?_ | refine lwp_label ?_ | refine lwp_region hC ⟨[], [], []⟩ (told0 _ _) rfl True.intro ?_
          (refine lwp_drawn hC (by rw [hP]; exact mixed) ⟨[], [], []⟩ (told0 _ _) [0, 1, 0, 0, 0, 16, 56, 124, 252, 508, 1023, 2047, 4095] 10 rfl ?_ ?_; rotate_left 1)
          · repeat first | refine lwp_seq fun K hK => ?_ | ((with_reducible refine thenS_normal ?_); apply_assumption -exfalso -symm) | refine thenS_exit ?_ | refine thenS_ret ?_ | refine inBlockS_normal ?_ | refine inBlockS_ret ?_ | refine inBlockS_hit rfl ?_ | refine inBlockS_miss rfl ?_ | refine lwp_block ?_ | refine lwp_skip ?_ | refine lwp_exit ?_ | refine lwp_ret ?_ | refine lwp_label ?_ | refine lwp_region hC ⟨[], [], []⟩ (told0 _ _) rfl True.intro ?_ | refine lwp_region hC ⟨[], [], []⟩ (told0 _ _) rfl (by ((try simp only [AllL, All, cd_p, cp_p, cv_p, InK, and_true, true_and]); all_goals ((repeat' (first | refine And.intro ?_ ?_ | intro _)) <;> first | omega | exact True.intro | assumption | (simp; done) | rfl | (simp_all; done) | (simp_all; omega)))) ?_
            simp only [r1, Int.toNat_natCast]
            refine thenS_normal ⟨k + 1, ?_, ?_, sub_intro hm [(0, some 0), (1, some 1), (2, some 2), (3, some 5)] rfl ?_⟩
            · omega
            · omega
            · rw [HCS.out]; ((try simp only [AllL, All, cd_p, cp_p, cv_p, InK, and_true, true_and]); all_goals ((repeat' (first | refine And.intro ?_ ?_ | intro _)) <;> first | omega | exact True.intro | assumption | (simp; done) | rfl | (simp_all; done) | (simp_all; omega)))
          · simp only [AllL, All, cd_p, cp_p, cv_p, InK, r1, Int.toNat_natCast]
            (repeat' (first | refine And.intro ?_ ?_ | intro _)) <;> first | omega | trivial | rfl
        · obtain rfl : k = N := by omega
          repeat first | refine lwp_seq fun K hK => ?_ | ((with_reducible refine thenS_normal ?_); apply_assumption -exfalso -symm) | refine thenS_exit ?_ | refine thenS_ret ?_ | refine inBlockS_normal ?_ | refine inBlockS_ret ?_ | refine inBlockS_hit rfl ?_ | refine inBlockS_miss rfl ?_ | refine lwp_block ?_ | refine lwp_skip ?_ | refine lwp_exit ?_ | refine lwp_ret ?_ | refine lwp_label ?_ | refine lwp_region hC ⟨[], [], []⟩ (told0 _ _) rfl True.intro ?_ | refine lwp_region hC ⟨[], [], []⟩ (told0 _ _) rfl (by ((try simp only [AllL, All, cd_p, cp_p, cv_p, InK, and_true, true_and]); all_goals ((repeat' (first | refine And.intro ?_ ?_ | intro _)) <;> first | omega | exact True.intro | assumption | (simp; done) | rfl | (simp_all; done) | (simp_all; omega)))) ?_
          rw [HR.out]
          (refine end_intro (by first | exact .inr rfl | exact .inl rfl) [(1, some 3), (2, none)] rfl ?_)
          ((try simp only [AllL, All, cd_p, cp_p, cv_p, InK, and_true, true_and]); all_goals ((repeat' (first | refine And.intro ?_ ?_ | intro _)) <;> first | omega | exact True.intro | assumption | (simp; done) | rfl | (simp_all; done) | (simp_all; omega)))
  · simp only [AllL, All, cd_p, cp_p, cv_p, InK, List.length_cons, List.length_nil]
    (repeat' refine And.intro ?_ ?_) <;> first | trivial | rfl | omega | simp

end Go.Proofs.YtbpffadffbgloaaDoor
