/- Contracts of the reference: CheckEnds, Restored, Again. -/
import Derived.Test.YtbpffadffbgloaaGreatDoorTe
import Derived.Test.YtbpffadffbgloaaGreatDoorTf
import Derived.Test.YtbpffadffbgloaaGreatDoorRg
set_option linter.unusedVariables false
set_option linter.unusedSimpArgs false
namespace Go.Proofs.YtbpffadffbgloaaGreatDoor
open Go.RowKit Go.Sym

def endsS (b a : Int) (ends : List Int) : Int := if (ends.length : Int) ≠ b + a then 2 else firstS (ends.map readingS)
theorem firstS_map_drop (l : List Int) (k : Nat) (hk : k < l.length) (h : readingS (l.getD k 0) = 0) : firstS ((l.map readingS).drop k) = firstS ((l.map readingS).drop (k + 1)) := by
  have hk2 : k < (l.map readingS).length := by rw [List.length_map]; exact hk
  rw [List.drop_eq_getElem_cons hk2]
  rw [List.getD_eq_getElem?_getD, List.getElem?_eq_getElem hk] at h
  simp only [Option.getD_some] at h
  simp [firstS, h]
def RCheckEnds_i (b a : Int) (ends : List Int) (σ : Ren) : Inst := { f := 25, hin := [(0, .ro ends.length 1 (.ints .i64 ends))], args := [.agg [i64 b, i64 a], .sl 0 ends.length], hout := [], ret := i64 (endsS b a ends), σ := σ }
set_option maxHeartbeats 2000000 in
theorem RCheckEnds_s (b a : Int) (ends : List Int) (σ : Ren) (hl : ends.length ≤ 1000000) (hb0 : 1 ≤ b) (hb1 : b ≤ 32) (ha0 : 1 ≤ a) (ha1 : a ≤ 32) : (RCheckEnds_i b a ends σ).ok Tryz.prog := by
  unfold RCheckEnds_i Inst.ok; dsimp only; refine spec_of_body (tys := tys) 1 Tryz.func25 (by kernel_rfl) rfl tys_ok rfl (Nat.le_of_ble_eq_true rfl) (fun _ _ h => (by cases h)) fun F hP hm hC => ?_; conv => whnf
  repeat first | refine lwp_seq fun K hK => ?_ | (refine thenS_normal ?_; apply_assumption -exfalso -symm) | refine thenS_exit ?_ | refine thenS_ret ?_ | refine inBlockS_normal ?_ | refine inBlockS_ret ?_ | refine inBlockS_hit rfl ?_ | refine inBlockS_miss rfl ?_ | refine lwp_block ?_ | refine lwp_skip ?_ | refine lwp_exit ?_ | refine lwp_ret ?_ | refine lwp_label ?_ | refine lwp_region hC ⟨[], [], []⟩ (told0 _ _) rfl True.intro ?_ | refine lwp_region hC ⟨[], [], []⟩ (told0 _ _) rfl (by ((try simp only [AllL, All, cd_p, cp_p, cv_p, InK, and_true, true_and]); all_goals ((repeat' (first | refine And.intro ?_ ?_ | intro _)) <;> first | omega | exact True.intro | assumption | (simp; done) | rfl | (simp_all; done) | (simp_all; omega)))) ?_
  (refine lwp_cond hC rfl (by first | exact True.intro | ((try simp only [AllL, All, cd_p, cp_p, cv_p, InK, and_true, true_and]); all_goals ((repeat' (first | refine And.intro ?_ ?_ | intro _)) <;> first | omega | exact True.intro | assumption | (simp; done) | rfl | (simp_all; done) | (simp_all; omega)))) (fun hb => ?_) (fun hb => ?_) <;> (try simp only [decide_eq_true_eq, decide_eq_false_iff_not, Bool.not_eq_true', Bool.not_eq_false', ne_eq, Decidable.not_not] at hb))
  · have hS : endsS b a ends = 2 := by unfold endsS; rw [if_pos hb]
    repeat first | refine lwp_seq fun K hK => ?_ | (refine thenS_normal ?_; apply_assumption -exfalso -symm) | refine thenS_exit ?_ | refine thenS_ret ?_ | refine inBlockS_normal ?_ | refine inBlockS_ret ?_ | refine inBlockS_hit rfl ?_ | refine inBlockS_miss rfl ?_ | refine lwp_block ?_ | refine lwp_skip ?_ | refine lwp_exit ?_ | refine lwp_ret ?_ | refine lwp_label ?_ | refine lwp_region hC ⟨[], [], []⟩ (told0 _ _) rfl True.intro ?_ | refine lwp_region hC ⟨[], [], []⟩ (told0 _ _) rfl (by ((try simp only [AllL, All, cd_p, cp_p, cv_p, InK, and_true, true_and]); all_goals ((repeat' (first | refine And.intro ?_ ?_ | intro _)) <;> first | omega | exact True.intro | assumption | (simp; done) | rfl | (simp_all; done) | (simp_all; omega)))) ?_
    rw [hS]
    (refine end_intro (by first | exact .inr rfl | exact .inl rfl) [] rfl ?_)
    ((try simp only [AllL, All, cd_p, cp_p, cv_p, InK, and_true, true_and]); all_goals ((repeat' (first | refine And.intro ?_ ?_ | intro _)) <;> first | omega | exact True.intro | assumption | (simp; done) | rfl | (simp_all; done) | (simp_all; omega)))
  · have hS : endsS b a ends = firstS (ends.map readingS) := by unfold endsS; rw [if_neg (by omega)]
    repeat first | refine lwp_seq fun K hK => ?_ | (refine thenS_normal ?_; apply_assumption -exfalso -symm) | refine thenS_exit ?_ | refine thenS_ret ?_ | refine inBlockS_normal ?_ | refine inBlockS_ret ?_ | refine inBlockS_hit rfl ?_ | refine inBlockS_miss rfl ?_ | refine lwp_block ?_ | refine lwp_skip ?_ | refine lwp_exit ?_ | refine lwp_ret ?_ | refine lwp_label ?_ | refine lwp_region hC ⟨[], [], []⟩ (told0 _ _) rfl True.intro ?_ | refine lwp_region hC ⟨[], [], []⟩ (told0 _ _) rfl (by ((try simp only [AllL, All, cd_p, cp_p, cv_p, InK, and_true, true_and]); all_goals ((repeat' (first | refine And.intro ?_ ?_ | intro _)) <;> first | omega | exact True.intro | assumption | (simp; done) | rfl | (simp_all; done) | (simp_all; omega)))) ?_
    refine lwp_loop (fun k : Nat => ⟨[(5, i64 k), (2, .ptr 1 0 0 0), (1, .sl 0 ends.length)], [(1, .blk 53 [i64 b, i64 a]), (0, .ro ends.length 1 (.ints .i64 ends))], 2⟩) (fun k => k ≤ ends.length ∧ firstS (ends.map readingS) = firstS ((ends.map readingS).drop k)) (fun k => ends.length - k) 0 ⟨?_, sub_intro hm [(0, some 0), (1, some 1)] rfl ?_⟩ ?_
    · exact ⟨Nat.zero_le _, rfl⟩
    · ((try simp only [AllL, All, cd_p, cp_p, cv_p, InK, and_true, true_and]); all_goals ((repeat' (first | refine And.intro ?_ ?_ | intro _)) <;> first | omega | exact True.intro | assumption | (simp; done) | rfl | (simp_all; done) | (simp_all; omega)))
    · rintro k ⟨hk, hf⟩
      have hkk : ((k : Int)).toNat = k := Int.toNat_natCast k
      have HF := Lib.hid (hS.trans hf)
      have HF2 := Lib.hid hf
      clear hf hS
      repeat first | refine lwp_seq fun K hK => ?_ | (refine thenS_normal ?_; apply_assumption -exfalso -symm) | refine thenS_exit ?_ | refine thenS_ret ?_ | refine inBlockS_normal ?_ | refine inBlockS_ret ?_ | refine inBlockS_hit rfl ?_ | refine inBlockS_miss rfl ?_ | refine lwp_block ?_ | refine lwp_skip ?_ | refine lwp_exit ?_ | refine lwp_ret ?_ | refine lwp_label ?_ | refine lwp_region hC ⟨[], [], []⟩ (told0 _ _) rfl True.intro ?_ | refine lwp_region hC ⟨[], [], []⟩ (told0 _ _) rfl (by ((try simp only [AllL, All, cd_p, cp_p, cv_p, InK, and_true, true_and]); all_goals ((repeat' (first | refine And.intro ?_ ?_ | intro _)) <;> first | omega | exact True.intro | assumption | (simp; done) | rfl | (simp_all; done) | (simp_all; omega)))) ?_
      (refine lwp_cond hC rfl (by first | exact True.intro | ((try simp only [AllL, All, cd_p, cp_p, cv_p, InK, and_true, true_and]); all_goals ((repeat' (first | refine And.intro ?_ ?_ | intro _)) <;> first | omega | exact True.intro | assumption | (simp; done) | rfl | (simp_all; done) | (simp_all; omega)))) (fun hb => ?_) (fun hb => ?_) <;> (try simp only [decide_eq_true_eq, decide_eq_false_iff_not, Bool.not_eq_true', Bool.not_eq_false', ne_eq, Decidable.not_not] at hb))
      · have hk2 : k < ends.length := by omega
        repeat first | refine lwp_seq fun K hK => ?_ | (refine thenS_normal ?_; apply_assumption -exfalso -symm) | refine thenS_exit ?_ | refine thenS_ret ?_ | refine inBlockS_normal ?_ | refine inBlockS_ret ?_ | refine inBlockS_hit rfl ?_ | refine inBlockS_miss rfl ?_ | refine lwp_block ?_ | refine lwp_skip ?_ | refine lwp_exit ?_ | refine lwp_ret ?_ | refine lwp_label ?_ | refine lwp_region hC ⟨[], [], []⟩ (told0 _ _) rfl True.intro ?_ | refine lwp_region hC ⟨[], [], []⟩ (told0 _ _) rfl (by ((try simp only [AllL, All, cd_p, cp_p, cv_p, InK, and_true, true_and]); all_goals ((repeat' (first | refine And.intro ?_ ?_ | intro _)) <;> first | omega | exact True.intro | assumption | (simp; done) | rfl | (simp_all; done) | (simp_all; omega)))) ?_
        (refine lwp_region hC ⟨[], [], [(4, Reading_i (ends.getD k 0))]⟩ (told1 _ (by rw [hP]; exact (calls_cons (Reading_s _) calls_nil))) rfl ?_ ?_; rotate_left 1)
        · repeat first | refine lwp_seq fun K hK => ?_ | (refine thenS_normal ?_; apply_assumption -exfalso -symm) | refine thenS_exit ?_ | refine thenS_ret ?_ | refine inBlockS_normal ?_ | refine inBlockS_ret ?_ | refine inBlockS_hit rfl ?_ | refine inBlockS_miss rfl ?_ | refine lwp_block ?_ | refine lwp_skip ?_ | refine lwp_exit ?_ | refine lwp_ret ?_ | refine lwp_label ?_ | refine lwp_region hC ⟨[], [], []⟩ (told0 _ _) rfl True.intro ?_ | refine lwp_region hC ⟨[], [], []⟩ (told0 _ _) rfl (by ((try simp only [AllL, All, cd_p, cp_p, cv_p, InK, and_true, true_and]); all_goals ((repeat' (first | refine And.intro ?_ ?_ | intro _)) <;> first | omega | exact True.intro | assumption | (simp; done) | rfl | (simp_all; done) | (simp_all; omega)))) ?_
          (refine lwp_cond hC rfl (by first | exact True.intro | ((try simp only [AllL, All, cd_p, cp_p, cv_p, InK, and_true, true_and]); all_goals ((repeat' (first | refine And.intro ?_ ?_ | intro _)) <;> first | omega | exact True.intro | assumption | (simp; done) | rfl | (simp_all; done) | (simp_all; omega)))) (fun hb => ?_) (fun hb => ?_) <;> (try simp only [decide_eq_true_eq, decide_eq_false_iff_not, Bool.not_eq_true', Bool.not_eq_false', ne_eq, Decidable.not_not] at hb))
          · have hk3 : k < (ends.map readingS).length := by rw [List.length_map]; exact hk2
            have hR : firstS ((ends.map readingS).drop k) = readingS (ends.getD k 0) := by
              rw [List.drop_eq_getElem_cons hk3]
              have e : (ends.map readingS)[k] = readingS (ends.getD k 0) := by simp [List.getD_eq_getElem?_getD, List.getElem?_eq_getElem hk2]
              rw [e, firstS, if_neg hb]
            repeat first | refine lwp_seq fun K hK => ?_ | (refine thenS_normal ?_; apply_assumption -exfalso -symm) | refine thenS_exit ?_ | refine thenS_ret ?_ | refine inBlockS_normal ?_ | refine inBlockS_ret ?_ | refine inBlockS_hit rfl ?_ | refine inBlockS_miss rfl ?_ | refine lwp_block ?_ | refine lwp_skip ?_ | refine lwp_exit ?_ | refine lwp_ret ?_ | refine lwp_label ?_ | refine lwp_region hC ⟨[], [], []⟩ (told0 _ _) rfl True.intro ?_ | refine lwp_region hC ⟨[], [], []⟩ (told0 _ _) rfl (by ((try simp only [AllL, All, cd_p, cp_p, cv_p, InK, and_true, true_and]); all_goals ((repeat' (first | refine And.intro ?_ ?_ | intro _)) <;> first | omega | exact True.intro | assumption | (simp; done) | rfl | (simp_all; done) | (simp_all; omega)))) ?_
            rw [HF.out, hR]
            (refine end_intro (by first | exact .inr rfl | exact .inl rfl) [] rfl ?_)
            ((try simp only [AllL, All, cd_p, cp_p, cv_p, InK, and_true, true_and]); all_goals ((repeat' (first | refine And.intro ?_ ?_ | intro _)) <;> first | omega | exact True.intro | assumption | (simp; done) | rfl | (simp_all; done) | (simp_all; omega)))
          · have hd := firstS_map_drop ends k hk2 hb
            repeat first | refine lwp_seq fun K hK => ?_ | (refine thenS_normal ?_; apply_assumption -exfalso -symm) | refine thenS_exit ?_ | refine thenS_ret ?_ | refine inBlockS_normal ?_ | refine inBlockS_ret ?_ | refine inBlockS_hit rfl ?_ | refine inBlockS_miss rfl ?_ | refine lwp_block ?_ | refine lwp_skip ?_ | refine lwp_exit ?_ | refine lwp_ret ?_ | refine lwp_label ?_ | refine lwp_region hC ⟨[], [], []⟩ (told0 _ _) rfl True.intro ?_ | refine lwp_region hC ⟨[], [], []⟩ (told0 _ _) rfl (by ((try simp only [AllL, All, cd_p, cp_p, cv_p, InK, and_true, true_and]); all_goals ((repeat' (first | refine And.intro ?_ ?_ | intro _)) <;> first | omega | exact True.intro | assumption | (simp; done) | rfl | (simp_all; done) | (simp_all; omega)))) ?_
            refine thenS_normal ⟨k + 1, ?_, ?_, sub_intro hm [(0, some 0), (1, some 1)] rfl ?_⟩
            · exact ⟨by omega, by rw [HF2.out, hd]⟩
            · omega
            · simp only [All, cd_p, cp_p, cv_p]
              (repeat' refine And.intro ?_ ?_) <;> first | trivial | rfl | omega
        · simp only [AllL, All, cd_p, cp_p, cv_p, InK, hkk]
          (repeat' (first | refine And.intro ?_ ?_ | intro _)) <;> first | omega | assumption | trivial | rfl
      · have hS : firstS ((ends.map readingS).drop k) = 0 := by rw [List.drop_of_length_le (by rw [List.length_map]; omega)]; rfl
        repeat first | refine lwp_seq fun K hK => ?_ | (refine thenS_normal ?_; apply_assumption -exfalso -symm) | refine thenS_exit ?_ | refine thenS_ret ?_ | refine inBlockS_normal ?_ | refine inBlockS_ret ?_ | refine inBlockS_hit rfl ?_ | refine inBlockS_miss rfl ?_ | refine lwp_block ?_ | refine lwp_skip ?_ | refine lwp_exit ?_ | refine lwp_ret ?_ | refine lwp_label ?_ | refine lwp_region hC ⟨[], [], []⟩ (told0 _ _) rfl True.intro ?_ | refine lwp_region hC ⟨[], [], []⟩ (told0 _ _) rfl (by ((try simp only [AllL, All, cd_p, cp_p, cv_p, InK, and_true, true_and]); all_goals ((repeat' (first | refine And.intro ?_ ?_ | intro _)) <;> first | omega | exact True.intro | assumption | (simp; done) | rfl | (simp_all; done) | (simp_all; omega)))) ?_
        rw [HF.out, hS]
        (refine end_intro (by first | exact .inr rfl | exact .inl rfl) [] rfl ?_)
        ((try simp only [AllL, All, cd_p, cp_p, cv_p, InK, and_true, true_and]); all_goals ((repeat' (first | refine And.intro ?_ ?_ | intro _)) <;> first | omega | exact True.intro | assumption | (simp; done) | rfl | (simp_all; done) | (simp_all; omega)))

theorem mulN {x y : Int} (x0 : 0 ≤ x) (x1 : x ≤ 64) (hy : -1073741824 ≤ y ∧ y ≤ 1073741824) : -68719476736 ≤ x * y ∧ x * y ≤ 68719476736 := by
  have h1 : x * y ≤ x * 1073741824 := Int.mul_le_mul_of_nonneg_left hy.2 x0
  have h2 : x * -1073741824 ≤ x * y := Int.mul_le_mul_of_nonneg_left hy.1 x0
  omega
def restRR (b a : Int) (t : Tr) (ends : List Int) : Tr × Int := if restE3 b t ends ≠ 0 then (⟨0, [], []⟩, restE3 b t ends) else restR b a t ends
theorem restE3_a {b : Int} {t : Tr} {ends : List Int} (h : t.first < b) : restE3 b t ends = 14 := by
  unfold restE3; rw [firstS, if_neg]
  · rw [decide_eq_true h]; rfl
  · rw [decide_eq_true h]; decide
theorem restE3_b {b : Int} {t : Tr} {ends : List Int} (h : ¬ t.first < b) (h2 : 4096 < (ends.length : Int) + t.vals.length) : restE3 b t ends = 5 := by
  unfold restE3; rw [decide_eq_false h, decide_eq_true h2]; rfl
theorem restE3_c {b : Int} {t : Tr} {ends : List Int} (h : ¬ t.first < b) (h2 : ¬ 4096 < (ends.length : Int) + t.vals.length) (h3 : 100000000 < t.first - b + ((ends.length : Int) + t.vals.length)) : restE3 b t ends = 4 := by
  unfold restE3; rw [decide_eq_false h, decide_eq_false h2, decide_eq_true h3]; rfl
theorem restE3_d {b : Int} {t : Tr} {ends : List Int} (h : ¬ t.first < b) (h2 : ¬ 4096 < (ends.length : Int) + t.vals.length) (h3 : ¬ 100000000 < t.first - b + ((ends.length : Int) + t.vals.length)) : restE3 b t ends = 0 := by
  unfold restE3; rw [decide_eq_false h, decide_eq_false h2, decide_eq_false h3]; rfl
/-- A next height, in its parts. -/
theorem nextS_form {b a x y z : Int} (h : Int.tmod ((b + a) * x - a * y - z) b ≠ 0) : nextS b a x y z = (0, 1) := by unfold nextS; dsimp only; rw [if_pos h]
theorem nextS_large {b a x y z : Int} (h : Int.tmod ((b + a) * x - a * y - z) b = 0) (h2 : readingS (Int.tdiv ((b + a) * x - a * y - z) b) ≠ 0) : nextS b a x y z = (Int.tdiv ((b + a) * x - a * y - z) b, 4) := by
  unfold nextS; dsimp only; rw [if_neg (by rw [h]; decide)]; simp [whenS, h2]
theorem nextS_fine {b a x y z : Int} (h : Int.tmod ((b + a) * x - a * y - z) b = 0) (h2 : readingS (Int.tdiv ((b + a) * x - a * y - z) b) = 0) : nextS b a x y z = (Int.tdiv ((b + a) * x - a * y - z) b, 0) := by
  unfold nextS; dsimp only; rw [if_neg (by rw [h]; decide)]; simp [whenS, h2]

def RRestored_i (b a : Int) (t : Tr) (ends : List Int) (σ : Ren) : Inst := { f := 26, hin := restIn t ends, args := [.agg [i64 b, i64 a], trA 0 1 t, .sl 2 ends.length], hout := trW 3 (restRR b a t ends), ret := trR 3 (restRR b a t ends), σ := σ }
set_option maxRecDepth 20000 in
set_option maxHeartbeats 8000000 in
theorem RRestored_s (b a : Int) (t : Tr) (ends : List Int) (σ : Ren) (hs : ShortOk t) (b0 : 1 ≤ b) (b1 : b ≤ 32) (a0 : 1 ≤ a) (a1 : a ≤ 32) (hle : (ends.length : Int) = b + a) (hea : ∀ x ∈ ends, readingS x = 0) : (RRestored_i b a t ends σ).ok Tryz.prog := by
  have t2 := hs.ok.len
  have t3 := hs.hol
  have f0 := hs.ok.f0
  have f1 := hs.ok.f1
  unfold RRestored_i Inst.ok; dsimp only; refine spec_of_body (tys := tys) 3 Tryz.func26 (by kernel_rfl) rfl tys_ok rfl (Nat.le_of_ble_eq_true rfl) (fun _ _ h => (by cases h)) fun F hP hm hC => ?_; conv => whnf
  repeat first | refine lwp_seq fun K hK => ?_ | (refine thenS_normal ?_; apply_assumption -exfalso -symm) | refine thenS_exit ?_ | refine thenS_ret ?_ | refine inBlockS_normal ?_ | refine inBlockS_ret ?_ | refine inBlockS_hit rfl ?_ | refine inBlockS_miss rfl ?_ | refine lwp_block ?_ | refine lwp_skip ?_ | refine lwp_exit ?_ | refine lwp_ret ?_ | refine lwp_label ?_ | refine lwp_region hC ⟨[], [], []⟩ (told0 _ _) rfl True.intro ?_ | refine lwp_region hC ⟨[], [], []⟩ (told0 _ _) rfl (by ((try simp only [AllL, All, cd_p, cp_p, cv_p, InK, and_true, true_and]); all_goals ((repeat' (first | refine And.intro ?_ ?_ | intro _)) <;> first | omega | exact True.intro | assumption | (simp; done) | rfl | (simp_all; done) | (simp_all; omega)))) ?_
  (refine lwp_cond hC rfl (by first | exact True.intro | ((try simp only [AllL, All, cd_p, cp_p, cv_p, InK, and_true, true_and]); all_goals ((repeat' (first | refine And.intro ?_ ?_ | intro _)) <;> first | omega | exact True.intro | assumption | (simp; done) | rfl | (simp_all; done) | (simp_all; omega)))) (fun hb => ?_) (fun hb => ?_) <;> (try simp only [decide_eq_true_eq, decide_eq_false_iff_not, Bool.not_eq_true', Bool.not_eq_false', ne_eq, Decidable.not_not] at hb))
  · have hR : restRR b a t ends = (⟨0, [], []⟩, 14) := by unfold restRR; rw [restE3_a hb]; rfl
    repeat first | refine lwp_seq fun K hK => ?_ | (refine thenS_normal ?_; apply_assumption -exfalso -symm) | refine thenS_exit ?_ | refine thenS_ret ?_ | refine inBlockS_normal ?_ | refine inBlockS_ret ?_ | refine inBlockS_hit rfl ?_ | refine inBlockS_miss rfl ?_ | refine lwp_block ?_ | refine lwp_skip ?_ | refine lwp_exit ?_ | refine lwp_ret ?_ | refine lwp_label ?_ | refine lwp_region hC ⟨[], [], []⟩ (told0 _ _) rfl True.intro ?_ | refine lwp_region hC ⟨[], [], []⟩ (told0 _ _) rfl (by ((try simp only [AllL, All, cd_p, cp_p, cv_p, InK, and_true, true_and]); all_goals ((repeat' (first | refine And.intro ?_ ?_ | intro _)) <;> first | omega | exact True.intro | assumption | (simp; done) | rfl | (simp_all; done) | (simp_all; omega)))) ?_
    rw [hR]
    (refine end_intro (by first | exact .inr rfl | exact .inl rfl) [(3, none), (4, none)] rfl ?_)
    ((try simp only [AllL, All, cd_p, cp_p, cv_p, InK, and_true, true_and]); all_goals ((repeat' (first | refine And.intro ?_ ?_ | intro _)) <;> first | omega | exact True.intro | assumption | (simp; done) | rfl | (simp_all; done) | (simp_all; omega)))
  · have q1 := hb
    repeat first | refine lwp_seq fun K hK => ?_ | (refine thenS_normal ?_; apply_assumption -exfalso -symm) | refine thenS_exit ?_ | refine thenS_ret ?_ | refine inBlockS_normal ?_ | refine inBlockS_ret ?_ | refine inBlockS_hit rfl ?_ | refine inBlockS_miss rfl ?_ | refine lwp_block ?_ | refine lwp_skip ?_ | refine lwp_exit ?_ | refine lwp_ret ?_ | refine lwp_label ?_ | refine lwp_region hC ⟨[], [], []⟩ (told0 _ _) rfl True.intro ?_ | refine lwp_region hC ⟨[], [], []⟩ (told0 _ _) rfl (by ((try simp only [AllL, All, cd_p, cp_p, cv_p, InK, and_true, true_and]); all_goals ((repeat' (first | refine And.intro ?_ ?_ | intro _)) <;> first | omega | exact True.intro | assumption | (simp; done) | rfl | (simp_all; done) | (simp_all; omega)))) ?_
    (refine lwp_drawn hC (by rw [hP]; exact mixed) ⟨[], [], []⟩ (told0 _ _) [0, 1, 0, 4, 15, 0, 32, 96, 0, 256, 992, 0, 2048, 8160, 31, 32767] 15 rfl ?_ ?_; rotate_left 1)
    · repeat first | refine lwp_seq fun K hK => ?_ | (refine thenS_normal ?_; apply_assumption -exfalso -symm) | refine thenS_exit ?_ | refine thenS_ret ?_ | refine inBlockS_normal ?_ | refine inBlockS_ret ?_ | refine inBlockS_hit rfl ?_ | refine inBlockS_miss rfl ?_ | refine lwp_block ?_ | refine lwp_skip ?_ | refine lwp_exit ?_ | refine lwp_ret ?_ | refine lwp_label ?_ | refine lwp_region hC ⟨[], [], []⟩ (told0 _ _) rfl True.intro ?_ | refine lwp_region hC ⟨[], [], []⟩ (told0 _ _) rfl (by ((try simp only [AllL, All, cd_p, cp_p, cv_p, InK, and_true, true_and]); all_goals ((repeat' (first | refine And.intro ?_ ?_ | intro _)) <;> first | omega | exact True.intro | assumption | (simp; done) | rfl | (simp_all; done) | (simp_all; omega)))) ?_
      (refine lwp_cond hC rfl (by first | exact True.intro | ((try simp only [AllL, All, cd_p, cp_p, cv_p, InK, and_true, true_and]); all_goals ((repeat' (first | refine And.intro ?_ ?_ | intro _)) <;> first | omega | exact True.intro | assumption | (simp; done) | rfl | (simp_all; done) | (simp_all; omega)))) (fun hb => ?_) (fun hb => ?_) <;> (try simp only [decide_eq_true_eq, decide_eq_false_iff_not, Bool.not_eq_true', Bool.not_eq_false', ne_eq, Decidable.not_not] at hb))
      · have hR : restRR b a t ends = (⟨0, [], []⟩, 5) := by unfold restRR; rw [restE3_b q1 (by omega)]; rfl
        repeat first | refine lwp_seq fun K hK => ?_ | (refine thenS_normal ?_; apply_assumption -exfalso -symm) | refine thenS_exit ?_ | refine thenS_ret ?_ | refine inBlockS_normal ?_ | refine inBlockS_ret ?_ | refine inBlockS_hit rfl ?_ | refine inBlockS_miss rfl ?_ | refine lwp_block ?_ | refine lwp_skip ?_ | refine lwp_exit ?_ | refine lwp_ret ?_ | refine lwp_label ?_ | refine lwp_region hC ⟨[], [], []⟩ (told0 _ _) rfl True.intro ?_ | refine lwp_region hC ⟨[], [], []⟩ (told0 _ _) rfl (by ((try simp only [AllL, All, cd_p, cp_p, cv_p, InK, and_true, true_and]); all_goals ((repeat' (first | refine And.intro ?_ ?_ | intro _)) <;> first | omega | exact True.intro | assumption | (simp; done) | rfl | (simp_all; done) | (simp_all; omega)))) ?_
        rw [hR]
        (refine end_intro (by first | exact .inr rfl | exact .inl rfl) [(3, none), (4, none)] rfl ?_)
        ((try simp only [AllL, All, cd_p, cp_p, cv_p, InK, and_true, true_and]); all_goals ((repeat' (first | refine And.intro ?_ ?_ | intro _)) <;> first | omega | exact True.intro | assumption | (simp; done) | rfl | (simp_all; done) | (simp_all; omega)))
      · have q2 := hb
        repeat first | refine lwp_seq fun K hK => ?_ | (refine thenS_normal ?_; apply_assumption -exfalso -symm) | refine thenS_exit ?_ | refine thenS_ret ?_ | refine inBlockS_normal ?_ | refine inBlockS_ret ?_ | refine inBlockS_hit rfl ?_ | refine inBlockS_miss rfl ?_ | refine lwp_block ?_ | refine lwp_skip ?_ | refine lwp_exit ?_ | refine lwp_ret ?_ | refine lwp_label ?_ | refine lwp_region hC ⟨[], [], []⟩ (told0 _ _) rfl True.intro ?_ | refine lwp_region hC ⟨[], [], []⟩ (told0 _ _) rfl (by ((try simp only [AllL, All, cd_p, cp_p, cv_p, InK, and_true, true_and]); all_goals ((repeat' (first | refine And.intro ?_ ?_ | intro _)) <;> first | omega | exact True.intro | assumption | (simp; done) | rfl | (simp_all; done) | (simp_all; omega)))) ?_
        (refine lwp_cond hC rfl (by first | exact True.intro | ((try simp only [AllL, All, cd_p, cp_p, cv_p, InK, and_true, true_and]); all_goals ((repeat' (first | refine And.intro ?_ ?_ | intro _)) <;> first | omega | exact True.intro | assumption | (simp; done) | rfl | (simp_all; done) | (simp_all; omega)))) (fun hb => ?_) (fun hb => ?_) <;> (try simp only [decide_eq_true_eq, decide_eq_false_iff_not, Bool.not_eq_true', Bool.not_eq_false', ne_eq, Decidable.not_not] at hb))
        · have hR : restRR b a t ends = (⟨0, [], []⟩, 4) := by unfold restRR; rw [restE3_c q1 (by omega) (by omega)]; rfl
          repeat first | refine lwp_seq fun K hK => ?_ | (refine thenS_normal ?_; apply_assumption -exfalso -symm) | refine thenS_exit ?_ | refine thenS_ret ?_ | refine inBlockS_normal ?_ | refine inBlockS_ret ?_ | refine inBlockS_hit rfl ?_ | refine inBlockS_miss rfl ?_ | refine lwp_block ?_ | refine lwp_skip ?_ | refine lwp_exit ?_ | refine lwp_ret ?_ | refine lwp_label ?_ | refine lwp_region hC ⟨[], [], []⟩ (told0 _ _) rfl True.intro ?_ | refine lwp_region hC ⟨[], [], []⟩ (told0 _ _) rfl (by ((try simp only [AllL, All, cd_p, cp_p, cv_p, InK, and_true, true_and]); all_goals ((repeat' (first | refine And.intro ?_ ?_ | intro _)) <;> first | omega | exact True.intro | assumption | (simp; done) | rfl | (simp_all; done) | (simp_all; omega)))) ?_
          rw [hR]
          (refine end_intro (by first | exact .inr rfl | exact .inl rfl) [(3, none), (4, none)] rfl ?_)
          ((try simp only [AllL, All, cd_p, cp_p, cv_p, InK, and_true, true_and]); all_goals ((repeat' (first | refine And.intro ?_ ?_ | intro _)) <;> first | omega | exact True.intro | assumption | (simp; done) | rfl | (simp_all; done) | (simp_all; omega)))
        · have hR : restRR b a t ends = restR b a t ends := by unfold restRR; rw [restE3_d q1 (by omega) (by omega), if_neg (by decide)]
          have HRE := Lib.hid hR
          clear hR
          repeat first | refine lwp_seq fun K hK => ?_ | (refine thenS_normal ?_; apply_assumption -exfalso -symm) | refine thenS_exit ?_ | refine thenS_ret ?_ | refine inBlockS_normal ?_ | refine inBlockS_ret ?_ | refine inBlockS_hit rfl ?_ | refine inBlockS_miss rfl ?_ | refine lwp_block ?_ | refine lwp_skip ?_ | refine lwp_exit ?_ | refine lwp_ret ?_ | refine lwp_label ?_ | refine lwp_region hC ⟨[], [], []⟩ (told0 _ _) rfl True.intro ?_ | refine lwp_region hC ⟨[], [], []⟩ (told0 _ _) rfl (by ((try simp only [AllL, All, cd_p, cp_p, cv_p, InK, and_true, true_and]); all_goals ((repeat' (first | refine And.intro ?_ ?_ | intro _)) <;> first | omega | exact True.intro | assumption | (simp; done) | rfl | (simp_all; done) | (simp_all; omega)))) ?_
          refine lwp_loop (fun k : Nat => ⟨[(11, i64 k), (10, .sl 6 k), (8, i64 (t.first - b)), (6, .ptr 5 0 0 0), (4, .ptr 4 0 0 0), (3, .ptr 3 0 0 0), (2, .sl 2 ends.length)], [(6, .row 140 k 2 (vaC ((ends.map fun x => (x, true)).take k))), (5, .blk 25 [i64 0, .lit (.slice none 0 0), .lit (.slice none 0 0)]), (4, .blk 25 [i64 t.first, .sl 0 t.vals.length, .sl 1 t.holes.length]), (3, .blk 53 [i64 b, i64 a]), (0, .ro t.vals.length 1 (.ints .i64 t.vals)), (1, .ro t.holes.length 2 (spC t.holes)), (2, .ro ends.length 1 (.ints .i64 ends))], 7⟩) (fun k => k ≤ ends.length) (fun k => ends.length - k) 0 ⟨?_, sub_intro hm [(0, some 0), (1, some 1), (2, some 2), (3, some 3), (4, some 4), (5, some 5), (6, none)] rfl ?_⟩ ?_
          · exact Nat.zero_le _
          · ((try simp only [AllL, All, cd_p, cp_p, cv_p, InK, and_true, true_and]); all_goals ((repeat' (first | refine And.intro ?_ ?_ | intro _)) <;> first | omega | exact True.intro | assumption | (simp; done) | rfl | (simp_all; done) | (simp_all; omega)))
          · rintro k hk
            have hkk : ((k : Int)).toNat = k := Int.toNat_natCast k
            repeat first | refine lwp_seq fun K hK => ?_ | (refine thenS_normal ?_; apply_assumption -exfalso -symm) | refine thenS_exit ?_ | refine thenS_ret ?_ | refine inBlockS_normal ?_ | refine inBlockS_ret ?_ | refine inBlockS_hit rfl ?_ | refine inBlockS_miss rfl ?_ | refine lwp_block ?_ | refine lwp_skip ?_ | refine lwp_exit ?_ | refine lwp_ret ?_ | refine lwp_label ?_ | refine lwp_region hC ⟨[], [], []⟩ (told0 _ _) rfl True.intro ?_ | refine lwp_region hC ⟨[], [], []⟩ (told0 _ _) rfl (by ((try simp only [AllL, All, cd_p, cp_p, cv_p, InK, and_true, true_and]); all_goals ((repeat' (first | refine And.intro ?_ ?_ | intro _)) <;> first | omega | exact True.intro | assumption | (simp; done) | rfl | (simp_all; done) | (simp_all; omega)))) ?_
            (refine lwp_cond hC rfl (by first | exact True.intro | ((try simp only [AllL, All, cd_p, cp_p, cv_p, InK, and_true, true_and]); all_goals ((repeat' (first | refine And.intro ?_ ?_ | intro _)) <;> first | omega | exact True.intro | assumption | (simp; done) | rfl | (simp_all; done) | (simp_all; omega)))) (fun hb => ?_) (fun hb => ?_) <;> (try simp only [decide_eq_true_eq, decide_eq_false_iff_not, Bool.not_eq_true', Bool.not_eq_false', ne_eq, Decidable.not_not] at hb))
            · have hk2 : k < ends.length := by omega
              have e := vaC_snoc ((ends.map fun x => (x, true)).take k) ((ends.map fun x => (x, true)).getD k (0, false))
              rw [← take_snoc _ _ _ (by rw [List.length_map]; exact hk2)] at e
              have e3 : (ends.map fun x => (x, true)).getD k (0, false) = (ends.getD k 0, true) := by simp [List.getD_eq_getElem?_getD, List.getElem?_eq_getElem hk2]
              rw [e3] at e
              have E := Lib.hid e
              clear e e3
              repeat first | refine lwp_seq fun K hK => ?_ | (refine thenS_normal ?_; apply_assumption -exfalso -symm) | refine thenS_exit ?_ | refine thenS_ret ?_ | refine inBlockS_normal ?_ | refine inBlockS_ret ?_ | refine inBlockS_hit rfl ?_ | refine inBlockS_miss rfl ?_ | refine lwp_block ?_ | refine lwp_skip ?_ | refine lwp_exit ?_ | refine lwp_ret ?_ | refine lwp_label ?_ | refine lwp_region hC ⟨[], [], []⟩ (told0 _ _) rfl True.intro ?_ | refine lwp_region hC ⟨[], [], []⟩ (told0 _ _) rfl (by ((try simp only [AllL, All, cd_p, cp_p, cv_p, InK, and_true, true_and]); all_goals ((repeat' (first | refine And.intro ?_ ?_ | intro _)) <;> first | omega | exact True.intro | assumption | (simp; done) | rfl | (simp_all; done) | (simp_all; omega)))) ?_
              refine thenS_normal ⟨k + 1, ?_, ?_, sub_intro hm [(0, some 0), (1, some 1), (2, some 2), (3, some 3), (4, some 4), (5, some 5), (6, some 8)] rfl ?_⟩
              · omega
              · omega
              · have e2 : (vaC ((ends.map fun x => (x, true)).take (k + 1))).cells = (catC (vaC ((ends.map fun x => (x, true)).take k)) (Cont.exp [i64 (ends.getD k 0), bl true])).cells := by rw [catC_cells, E.out]; rfl
                simp only [All, cd_p, cp_p, cv_p, hkk]
                (repeat' refine And.intro ?_ ?_) <;> first | exact e2 | omega | trivial | rfl
            · have hk3 : k = ends.length := by omega
              subst hk3
              rw [List.take_of_length_le (by rw [List.length_map]; exact Nat.le_refl _)]
              repeat first | refine lwp_seq fun K hK => ?_ | (refine thenS_normal ?_; apply_assumption -exfalso -symm) | refine thenS_exit ?_ | refine thenS_ret ?_ | refine inBlockS_normal ?_ | refine inBlockS_ret ?_ | refine inBlockS_hit rfl ?_ | refine inBlockS_miss rfl ?_ | refine lwp_block ?_ | refine lwp_skip ?_ | refine lwp_exit ?_ | refine lwp_ret ?_ | refine lwp_label ?_ | refine lwp_region hC ⟨[], [], []⟩ (told0 _ _) rfl True.intro ?_ | refine lwp_region hC ⟨[], [], []⟩ (told0 _ _) rfl (by ((try simp only [AllL, All, cd_p, cp_p, cv_p, InK, and_true, true_and]); all_goals ((repeat' (first | refine And.intro ?_ ?_ | intro _)) <;> first | omega | exact True.intro | assumption | (simp; done) | rfl | (simp_all; done) | (simp_all; omega)))) ?_
              (refine lwp_region hC ⟨[], [], [(1, Values_i t [(0, some 0), (1, some 1)])]⟩ (told1 _ (by rw [hP]; exact (calls_cons (Values_s _ _ (by omega) (by omega)) calls_nil))) rfl ?_ ?_; rotate_left 1)
              · repeat first | refine lwp_seq fun K hK => ?_ | (refine thenS_normal ?_; apply_assumption -exfalso -symm) | refine thenS_exit ?_ | refine thenS_ret ?_ | refine inBlockS_normal ?_ | refine inBlockS_ret ?_ | refine inBlockS_hit rfl ?_ | refine inBlockS_miss rfl ?_ | refine lwp_block ?_ | refine lwp_skip ?_ | refine lwp_exit ?_ | refine lwp_ret ?_ | refine lwp_label ?_ | refine lwp_region hC ⟨[], [], []⟩ (told0 _ _) rfl True.intro ?_ | refine lwp_region hC ⟨[], [], []⟩ (told0 _ _) rfl (by ((try simp only [AllL, All, cd_p, cp_p, cv_p, InK, and_true, true_and]); all_goals ((repeat' (first | refine And.intro ?_ ?_ | intro _)) <;> first | omega | exact True.intro | assumption | (simp; done) | rfl | (simp_all; done) | (simp_all; omega)))) ?_
                have hVl := valuesS_len t.vals t.holes
                have HVG := Lib.hid (valuesS_get t.vals t.holes)
                have hv := hs.ok.val
                generalize hV : valuesS t.vals t.holes = V at *
                clear hV
                refine lwp_loop (fun k : Nat => ⟨[(13, i64 k), (12, .sl 7 V.length), (10, .sl 6 (ends.length + k)), (8, i64 (t.first - b)), (6, .ptr 5 0 0 0), (4, .ptr 4 0 0 0), (3, .ptr 3 0 0 0)], [(7, .row 140 V.length 2 (vaC V)), (6, .row 140 (ends.length + k) 2 (vaC (restL b a t ends k).2)), (5, .blk 25 [i64 0, .lit (.slice none 0 0), .lit (.slice none 0 0)]), (4, .blk 25 [i64 t.first, .sl 0 t.vals.length, .sl 1 t.holes.length]), (3, .blk 53 [i64 b, i64 a]), (0, .ro t.vals.length 1 (.ints .i64 t.vals)), (1, .ro t.holes.length 2 (spC t.holes)), (2, .ro ends.length 1 (.ints .i64 ends))], 8⟩) (fun k => k ≤ V.length ∧ (restL b a t ends k).1 = 0) (fun k => V.length - k) 0 ⟨?_, sub_intro hm [(0, some 0), (1, some 1), (2, some 2), (3, some 3), (4, some 4), (5, some 5), (6, some 6), (7, some 7)] rfl ?_⟩ ?_
                · exact ⟨Nat.zero_le _, rfl⟩
                · have e0 : (restL b a t ends 0).2 = ends.map fun x => (x, true) := rfl
                  rw [e0]
                  simp only [All, cd_p, cp_p, cv_p]
                  (repeat' refine And.intro ?_ ?_) <;> first | trivial | rfl | omega
                · rintro k ⟨hk, hf⟩
                  have hkk : ((k : Int)).toNat = k := Int.toNat_natCast k
                  repeat first | refine lwp_seq fun K hK => ?_ | (refine thenS_normal ?_; apply_assumption -exfalso -symm) | refine thenS_exit ?_ | refine thenS_ret ?_ | refine inBlockS_normal ?_ | refine inBlockS_ret ?_ | refine inBlockS_hit rfl ?_ | refine inBlockS_miss rfl ?_ | refine lwp_block ?_ | refine lwp_skip ?_ | refine lwp_exit ?_ | refine lwp_ret ?_ | refine lwp_label ?_ | refine lwp_region hC ⟨[], [], []⟩ (told0 _ _) rfl True.intro ?_ | refine lwp_region hC ⟨[], [], []⟩ (told0 _ _) rfl (by ((try simp only [AllL, All, cd_p, cp_p, cv_p, InK, and_true, true_and]); all_goals ((repeat' (first | refine And.intro ?_ ?_ | intro _)) <;> first | omega | exact True.intro | assumption | (simp; done) | rfl | (simp_all; done) | (simp_all; omega)))) ?_
                  (refine lwp_cond hC rfl (by first | exact True.intro | ((try simp only [AllL, All, cd_p, cp_p, cv_p, InK, and_true, true_and]); all_goals ((repeat' (first | refine And.intro ?_ ?_ | intro _)) <;> first | omega | exact True.intro | assumption | (simp; done) | rfl | (simp_all; done) | (simp_all; omega)))) (fun hb => ?_) (fun hb => ?_) <;> (try simp only [decide_eq_true_eq, decide_eq_false_iff_not, Bool.not_eq_true', Bool.not_eq_false', ne_eq, Decidable.not_not] at hb))
                  · have hks : k < t.vals.length := by omega
                    have hkV : k < V.length := by omega
                    have hx := HVG.out k hks
                    have hLl := restL_len b a t ends k hf
                    have hLg := restL_get (b := b) (a := a) (t := t) hea k
                    have hstep : restL b a t ends (k + 1) = restStep b a t k (restL b a t ends k).2 := by rw [restL, if_neg (by rw [hf]; decide)]
                    have HST := Lib.hid hstep
                    have g1 := hLg k
                    have g2 := hLg (k + b.toNat)
                    have g3 : -1073741824 ≤ t.vals.getD k 0 ∧ t.vals.getD k 0 ≤ 1073741824 := by
                      rw [List.getD_eq_getElem?_getD, List.getElem?_eq_getElem hks]; exact hv _ (List.getElem_mem hks)
                    clear hstep hLg
                    generalize hL : (restL b a t ends k).2 = L at *
                    clear hL
                    have hkb : ((k : Int) + b).toNat = k + b.toNat := by omega
                    have hbn : k + b.toNat < ends.length + k := by omega
                    repeat first | refine lwp_seq fun K hK => ?_ | (refine thenS_normal ?_; apply_assumption -exfalso -symm) | refine thenS_exit ?_ | refine thenS_ret ?_ | refine inBlockS_normal ?_ | refine inBlockS_ret ?_ | refine inBlockS_hit rfl ?_ | refine inBlockS_miss rfl ?_ | refine lwp_block ?_ | refine lwp_skip ?_ | refine lwp_exit ?_ | refine lwp_ret ?_ | refine lwp_label ?_ | refine lwp_region hC ⟨[], [], []⟩ (told0 _ _) rfl True.intro ?_ | refine lwp_region hC ⟨[], [], []⟩ (told0 _ _) rfl (by ((try simp only [AllL, All, cd_p, cp_p, cv_p, InK, and_true, true_and]); all_goals ((repeat' (first | refine And.intro ?_ ?_ | intro _)) <;> first | omega | exact True.intro | assumption | (simp; done) | rfl | (simp_all; done) | (simp_all; omega)))) ?_
                    (refine lwp_drawn2 hC (by rw [hP]; exact mixed) ⟨[], [], []⟩ (told0 _ _) [0, 0, 3, 7, 0, 0, 0, 64, 224, 496, 1008, 0, 0, 6159, 16383] 13 2032 rfl ?_ ?_; rotate_left 1)
                    · repeat first | refine lwp_seq fun K hK => ?_ | (refine thenS_normal ?_; apply_assumption -exfalso -symm) | refine thenS_exit ?_ | refine thenS_ret ?_ | refine inBlockS_normal ?_ | refine inBlockS_ret ?_ | refine inBlockS_hit rfl ?_ | refine inBlockS_miss rfl ?_ | refine lwp_block ?_ | refine lwp_skip ?_ | refine lwp_exit ?_ | refine lwp_ret ?_ | refine lwp_label ?_ | refine lwp_region hC ⟨[], [], []⟩ (told0 _ _) rfl True.intro ?_ | refine lwp_region hC ⟨[], [], []⟩ (told0 _ _) rfl (by ((try simp only [AllL, All, cd_p, cp_p, cv_p, InK, and_true, true_and]); all_goals ((repeat' (first | refine And.intro ?_ ?_ | intro _)) <;> first | omega | exact True.intro | assumption | (simp; done) | rfl | (simp_all; done) | (simp_all; omega)))) ?_
                      (refine lwp_cond hC rfl (by first | exact True.intro | ((try simp only [AllL, All, cd_p, cp_p, cv_p, InK, and_true, true_and]); all_goals ((repeat' (first | refine And.intro ?_ ?_ | intro _)) <;> first | omega | exact True.intro | assumption | (simp; done) | rfl | (simp_all; done) | (simp_all; omega)))) (fun hb => ?_) (fun hb => ?_) <;> (try simp only [decide_eq_true_eq, decide_eq_false_iff_not, Bool.not_eq_true', Bool.not_eq_false', ne_eq, Decidable.not_not] at hb))
                      · have hkw := hb
                        simp only [hkk, hkb, hx] at hkw
                        have hc : knownB t.holes k = true ∧ (L.getD k (0, false)).2 = true ∧ (L.getD (k + b.toNat) (0, false)).2 = true := by
                          revert hkw
                          cases knownB t.holes k <;> cases (L.getD k (0, false)).2 <;> cases (L.getD (k + b.toNat) (0, false)).2 <;> simp
                        have HKW := Lib.hid hkw
                        have p1 := mulN (x := b + a) (by omega) (by omega) g2
                        have p2 := mulN (x := a) (by omega) (by omega) g1
                        have hq : (((b + a) * (L.getD (k + b.toNat) (0, false)).1 - a * (L.getD k (0, false)).1 - t.vals.getD k 0).tdiv b).natAbs ≤ ((b + a) * (L.getD (k + b.toNat) (0, false)).1 - a * (L.getD k (0, false)).1 - t.vals.getD k 0).natAbs := Int.natAbs_tdiv_le_natAbs _ _
                        have hq2 : -1099511627776 ≤ ((b + a) * (L.getD (k + b.toNat) (0, false)).1 - a * (L.getD k (0, false)).1 - t.vals.getD k 0).tdiv b ∧ ((b + a) * (L.getD (k + b.toNat) (0, false)).1 - a * (L.getD k (0, false)).1 - t.vals.getD k 0).tdiv b ≤ 1099511627776 := by omega
                        have hS : restL b a t ends (k + 1) = (if (nextS b a (L.getD (k + b.toNat) (0, false)).1 (L.getD k (0, false)).1 (t.vals.getD k 0)).2 ≠ 0 then ((nextS b a (L.getD (k + b.toNat) (0, false)).1 (L.getD k (0, false)).1 (t.vals.getD k 0)).2, L)
      else (0, L ++ [((nextS b a (L.getD (k + b.toNat) (0, false)).1 (L.getD k (0, false)).1 (t.vals.getD k 0)).1, true)])) := by
                          rw [HST.out, restStep, if_pos (by rw [hc.1, hc.2.1, hc.2.2]; rfl)]
                        have HS := Lib.hid hS
                        clear hb hkw hc hS hq HST
                        repeat first | refine lwp_seq fun K hK => ?_ | (refine thenS_normal ?_; apply_assumption -exfalso -symm) | refine thenS_exit ?_ | refine thenS_ret ?_ | refine inBlockS_normal ?_ | refine inBlockS_ret ?_ | refine inBlockS_hit rfl ?_ | refine inBlockS_miss rfl ?_ | refine lwp_block ?_ | refine lwp_skip ?_ | refine lwp_exit ?_ | refine lwp_ret ?_ | refine lwp_label ?_ | refine lwp_region hC ⟨[], [], []⟩ (told0 _ _) rfl True.intro ?_ | refine lwp_region hC ⟨[], [], []⟩ (told0 _ _) rfl (by ((try simp only [AllL, All, cd_p, cp_p, cv_p, InK, and_true, true_and]); all_goals ((repeat' (first | refine And.intro ?_ ?_ | intro _)) <;> first | omega | exact True.intro | assumption | (simp; done) | rfl | (simp_all; done) | (simp_all; omega)))) ?_
                        (refine lwp_drawn2 hC (by rw [hP]; exact mixed) ⟨[], [], []⟩ (told0 _ _) [0, 1, 0, 4, 15, 0, 32, 127, 0, 256, 0, 1024, 3840, 8191, 0, 0, 49152, 114688, 245760, 524287, 1048575] 21 0 rfl ?_ ?_; rotate_left 1)
                        · simp only [hkk, hkb, hx]
                          repeat first | refine lwp_seq fun K hK => ?_ | (refine thenS_normal ?_; apply_assumption -exfalso -symm) | refine thenS_exit ?_ | refine thenS_ret ?_ | refine inBlockS_normal ?_ | refine inBlockS_ret ?_ | refine inBlockS_hit rfl ?_ | refine inBlockS_miss rfl ?_ | refine lwp_block ?_ | refine lwp_skip ?_ | refine lwp_exit ?_ | refine lwp_ret ?_ | refine lwp_label ?_ | refine lwp_region hC ⟨[], [], []⟩ (told0 _ _) rfl True.intro ?_ | refine lwp_region hC ⟨[], [], []⟩ (told0 _ _) rfl (by ((try simp only [AllL, All, cd_p, cp_p, cv_p, InK, and_true, true_and]); all_goals ((repeat' (first | refine And.intro ?_ ?_ | intro _)) <;> first | omega | exact True.intro | assumption | (simp; done) | rfl | (simp_all; done) | (simp_all; omega)))) ?_
                          (refine lwp_cond hC rfl (by first | exact True.intro | ((try simp only [AllL, All, cd_p, cp_p, cv_p, InK, and_true, true_and]); all_goals ((repeat' (first | refine And.intro ?_ ?_ | intro _)) <;> first | omega | exact True.intro | assumption | (simp; done) | rfl | (simp_all; done) | (simp_all; omega)))) (fun hb => ?_) (fun hb => ?_) <;> (try simp only [decide_eq_true_eq, decide_eq_false_iff_not, Bool.not_eq_true', Bool.not_eq_false', ne_eq, Decidable.not_not] at hb))
                          · have hE : (restL b a t ends (k + 1)).1 = 1 := by rw [HS.out, nextS_form hb]; rfl
                            have hEr := restL_err (k := k + 1) (by rw [hE]; decide) t.vals.length (by omega)
                            rw [hE] at hEr
                            have hM : restR b a t ends = (⟨0, [], []⟩, 1) := by unfold restR; rw [if_pos (by rw [hEr]; decide), hEr]
                            repeat first | refine lwp_seq fun K hK => ?_ | (refine thenS_normal ?_; apply_assumption -exfalso -symm) | refine thenS_exit ?_ | refine thenS_ret ?_ | refine inBlockS_normal ?_ | refine inBlockS_ret ?_ | refine inBlockS_hit rfl ?_ | refine inBlockS_miss rfl ?_ | refine lwp_block ?_ | refine lwp_skip ?_ | refine lwp_exit ?_ | refine lwp_ret ?_ | refine lwp_label ?_ | refine lwp_region hC ⟨[], [], []⟩ (told0 _ _) rfl True.intro ?_ | refine lwp_region hC ⟨[], [], []⟩ (told0 _ _) rfl (by ((try simp only [AllL, All, cd_p, cp_p, cv_p, InK, and_true, true_and]); all_goals ((repeat' (first | refine And.intro ?_ ?_ | intro _)) <;> first | omega | exact True.intro | assumption | (simp; done) | rfl | (simp_all; done) | (simp_all; omega)))) ?_
                            rw [HRE.out, hM]
                            (refine end_intro (by first | exact .inr rfl | exact .inl rfl) [(3, none), (4, none)] rfl ?_)
                            ((try simp only [AllL, All, cd_p, cp_p, cv_p, InK, and_true, true_and]); all_goals ((repeat' (first | refine And.intro ?_ ?_ | intro _)) <;> first | omega | exact True.intro | assumption | (simp; done) | rfl | (simp_all; done) | (simp_all; omega)))
                          · have hb1 := hb
                            clear hb
                            repeat first | refine lwp_seq fun K hK => ?_ | (refine thenS_normal ?_; apply_assumption -exfalso -symm) | refine thenS_exit ?_ | refine thenS_ret ?_ | refine inBlockS_normal ?_ | refine inBlockS_ret ?_ | refine inBlockS_hit rfl ?_ | refine inBlockS_miss rfl ?_ | refine lwp_block ?_ | refine lwp_skip ?_ | refine lwp_exit ?_ | refine lwp_ret ?_ | refine lwp_label ?_ | refine lwp_region hC ⟨[], [], []⟩ (told0 _ _) rfl True.intro ?_ | refine lwp_region hC ⟨[], [], []⟩ (told0 _ _) rfl (by ((try simp only [AllL, All, cd_p, cp_p, cv_p, InK, and_true, true_and]); all_goals ((repeat' (first | refine And.intro ?_ ?_ | intro _)) <;> first | omega | exact True.intro | assumption | (simp; done) | rfl | (simp_all; done) | (simp_all; omega)))) ?_
                            (refine lwp_region hC ⟨[], [], [(2, Reading_i (((b + a) * (L.getD (k + b.toNat) (0, false)).1 - a * (L.getD k (0, false)).1 - t.vals.getD k 0).tdiv b))]⟩ (told1 _ (by rw [hP]; exact (calls_cons (Reading_s _) calls_nil))) rfl ?_ ?_; rotate_left 1)
                            · repeat first | refine lwp_seq fun K hK => ?_ | (refine thenS_normal ?_; apply_assumption -exfalso -symm) | refine thenS_exit ?_ | refine thenS_ret ?_ | refine inBlockS_normal ?_ | refine inBlockS_ret ?_ | refine inBlockS_hit rfl ?_ | refine inBlockS_miss rfl ?_ | refine lwp_block ?_ | refine lwp_skip ?_ | refine lwp_exit ?_ | refine lwp_ret ?_ | refine lwp_label ?_ | refine lwp_region hC ⟨[], [], []⟩ (told0 _ _) rfl True.intro ?_ | refine lwp_region hC ⟨[], [], []⟩ (told0 _ _) rfl (by ((try simp only [AllL, All, cd_p, cp_p, cv_p, InK, and_true, true_and]); all_goals ((repeat' (first | refine And.intro ?_ ?_ | intro _)) <;> first | omega | exact True.intro | assumption | (simp; done) | rfl | (simp_all; done) | (simp_all; omega)))) ?_
                              (refine lwp_cond hC rfl (by first | exact True.intro | ((try simp only [AllL, All, cd_p, cp_p, cv_p, InK, and_true, true_and]); all_goals ((repeat' (first | refine And.intro ?_ ?_ | intro _)) <;> first | omega | exact True.intro | assumption | (simp; done) | rfl | (simp_all; done) | (simp_all; omega)))) (fun hb => ?_) (fun hb => ?_) <;> (try simp only [decide_eq_true_eq, decide_eq_false_iff_not, Bool.not_eq_true', Bool.not_eq_false', ne_eq, Decidable.not_not] at hb))
                              · have hE : (restL b a t ends (k + 1)).1 = 4 := by rw [HS.out, nextS_large hb1 hb]; rfl
                                have hEr := restL_err (k := k + 1) (by rw [hE]; decide) t.vals.length (by omega)
                                rw [hE] at hEr
                                have hM : restR b a t ends = (⟨0, [], []⟩, 4) := by unfold restR; rw [if_pos (by rw [hEr]; decide), hEr]
                                repeat first | refine lwp_seq fun K hK => ?_ | (refine thenS_normal ?_; apply_assumption -exfalso -symm) | refine thenS_exit ?_ | refine thenS_ret ?_ | refine inBlockS_normal ?_ | refine inBlockS_ret ?_ | refine inBlockS_hit rfl ?_ | refine inBlockS_miss rfl ?_ | refine lwp_block ?_ | refine lwp_skip ?_ | refine lwp_exit ?_ | refine lwp_ret ?_ | refine lwp_label ?_ | refine lwp_region hC ⟨[], [], []⟩ (told0 _ _) rfl True.intro ?_ | refine lwp_region hC ⟨[], [], []⟩ (told0 _ _) rfl (by ((try simp only [AllL, All, cd_p, cp_p, cv_p, InK, and_true, true_and]); all_goals ((repeat' (first | refine And.intro ?_ ?_ | intro _)) <;> first | omega | exact True.intro | assumption | (simp; done) | rfl | (simp_all; done) | (simp_all; omega)))) ?_
                                rw [HRE.out, hM]
                                (refine end_intro (by first | exact .inr rfl | exact .inl rfl) [(3, none), (4, none)] rfl ?_)
                                ((try simp only [AllL, All, cd_p, cp_p, cv_p, InK, and_true, true_and]); all_goals ((repeat' (first | refine And.intro ?_ ?_ | intro _)) <;> first | omega | exact True.intro | assumption | (simp; done) | rfl | (simp_all; done) | (simp_all; omega)))
                              · have hS : restL b a t ends (k + 1) = (0, L ++ [(((b + a) * (L.getD (k + b.toNat) (0, false)).1 - a * (L.getD k (0, false)).1 - t.vals.getD k 0).tdiv b, true)]) := by rw [HS.out, nextS_fine hb1 hb]; rfl
                                have hS1 : (restL b a t ends (k + 1)).1 = 0 := by rw [hS]
                                have hS2 : (restL b a t ends (k + 1)).2 = L ++ [(((b + a) * (L.getD (k + b.toNat) (0, false)).1 - a * (L.getD k (0, false)).1 - t.vals.getD k 0).tdiv b, true)] := by rw [hS]
                                have E := vaC_snoc L (((b + a) * (L.getD (k + b.toNat) (0, false)).1 - a * (L.getD k (0, false)).1 - t.vals.getD k 0).tdiv b, true)
                                repeat first | refine lwp_seq fun K hK => ?_ | (refine thenS_normal ?_; apply_assumption -exfalso -symm) | refine thenS_exit ?_ | refine thenS_ret ?_ | refine inBlockS_normal ?_ | refine inBlockS_ret ?_ | refine inBlockS_hit rfl ?_ | refine inBlockS_miss rfl ?_ | refine lwp_block ?_ | refine lwp_skip ?_ | refine lwp_exit ?_ | refine lwp_ret ?_ | refine lwp_label ?_ | refine lwp_region hC ⟨[], [], []⟩ (told0 _ _) rfl True.intro ?_ | refine lwp_region hC ⟨[], [], []⟩ (told0 _ _) rfl (by ((try simp only [AllL, All, cd_p, cp_p, cv_p, InK, and_true, true_and]); all_goals ((repeat' (first | refine And.intro ?_ ?_ | intro _)) <;> first | omega | exact True.intro | assumption | (simp; done) | rfl | (simp_all; done) | (simp_all; omega)))) ?_
                                refine thenS_normal ⟨k + 1, ?_, ?_, sub_intro hm [(0, some 0), (1, some 1), (2, some 2), (3, some 3), (4, some 4), (5, some 5), (6, some 16), (7, some 7)] rfl ?_⟩
                                · exact ⟨by omega, hS1⟩
                                · omega
                                · rw [hS2]
                                  have e2 : (vaC (L ++ [(((b + a) * (L.getD (k + b.toNat) (0, false)).1 - a * (L.getD k (0, false)).1 - t.vals.getD k 0).tdiv b, true)])).cells = (catC (vaC L) (Cont.exp [i64 (((b + a) * (L.getD (k + b.toNat) (0, false)).1 - a * (L.getD k (0, false)).1 - t.vals.getD k 0).tdiv b), bl true])).cells := by rw [catC_cells, E]; rfl
                                  simp only [All, cd_p, cp_p, cv_p]
                                  (repeat' refine And.intro ?_ ?_) <;> first | (rw [HKW.out]; exact e2) | omega | trivial | rfl
                            · simp only [AllL, All, cd_p, cp_p, cv_p, InK]
                              (repeat' (first | refine And.intro ?_ ?_ | intro _)) <;> first | omega | assumption | trivial | rfl
                        · simp only [AllL, All, cd_p, cp_p, cv_p, InK, hkk, hkb, hx]
                          (repeat' (first | refine And.intro ?_ ?_ | intro _)) <;> first | omega | assumption | trivial | rfl
                      · have hkw := hb
                        simp only [hkk, hkb, hx] at hkw
                        have hc : ¬ (knownB t.holes k && (L.getD k (0, false)).2 && (L.getD (k + b.toNat) (0, false)).2) = true := by
                          revert hkw
                          cases knownB t.holes k <;> cases (L.getD k (0, false)).2 <;> cases (L.getD (k + b.toNat) (0, false)).2 <;> simp
                        have hS : restL b a t ends (k + 1) = (0, L ++ [(0, false)]) := by rw [HST.out, restStep, if_neg hc]
                        have hS1 : (restL b a t ends (k + 1)).1 = 0 := by rw [hS]
                        have hS2 : (restL b a t ends (k + 1)).2 = L ++ [(0, false)] := by rw [hS]
                        have E := vaC_snoc L ((0 : Int), false)
                        have HBT := Lib.hid hb
                        clear hb hkw hc hS
                        repeat first | refine lwp_seq fun K hK => ?_ | (refine thenS_normal ?_; apply_assumption -exfalso -symm) | refine thenS_exit ?_ | refine thenS_ret ?_ | refine inBlockS_normal ?_ | refine inBlockS_ret ?_ | refine inBlockS_hit rfl ?_ | refine inBlockS_miss rfl ?_ | refine lwp_block ?_ | refine lwp_skip ?_ | refine lwp_exit ?_ | refine lwp_ret ?_ | refine lwp_label ?_ | refine lwp_region hC ⟨[], [], []⟩ (told0 _ _) rfl True.intro ?_ | refine lwp_region hC ⟨[], [], []⟩ (told0 _ _) rfl (by ((try simp only [AllL, All, cd_p, cp_p, cv_p, InK, and_true, true_and]); all_goals ((repeat' (first | refine And.intro ?_ ?_ | intro _)) <;> first | omega | exact True.intro | assumption | (simp; done) | rfl | (simp_all; done) | (simp_all; omega)))) ?_
                        refine thenS_normal ⟨k + 1, ?_, ?_, sub_intro hm [(0, some 0), (1, some 1), (2, some 2), (3, some 3), (4, some 4), (5, some 5), (6, some 15), (7, some 7)] rfl ?_⟩
                        · exact ⟨by omega, hS1⟩
                        · omega
                        · rw [hS2]
                          have e2 : (vaC (L ++ [((0 : Int), false)])).cells = (catC (vaC L) (Cont.exp [i64 0, bl false])).cells := by rw [catC_cells, E]; rfl
                          simp only [All, cd_p, cp_p, cv_p]
                          (repeat' refine And.intro ?_ ?_) <;> first | (rw [HBT.out]; exact e2) | omega | trivial | rfl
                    · simp only [AllL, All, cd_p, cp_p, cv_p, InK, hkk, hkb]
                      (repeat' (first | refine And.intro ?_ ?_ | intro _)) <;> first | omega | assumption | trivial | rfl
                  · have hk3 : k = V.length := by omega
                    subst hk3
                    rw [hVl] at hf ⊢
                    have hM : restR b a t ends = (⟨t.first - b, (addAll (restL b a t ends t.vals.length).2).1, (addAll (restL b a t ends t.vals.length).2).2⟩, 0) := by unfold restR; rw [if_neg (by rw [hf]; decide)]
                    have hok := fun x hx => (restL_ok (b := b) (a := a) (t := t) hea t.vals.length x hx).1
                    have hbad : (restL b a t ends t.vals.length).2.any badS = false := by
                      rw [List.any_eq_false]; intro x hx; rw [hok x hx]; decide
                    have hMd : madeS (t.first - b) (restL b a t ends t.vals.length).2 = restR b a t ends := by rw [hM]; unfold madeS; rw [hbad]; rfl
                    have hLl := restL_len b a t ends t.vals.length hf
                    clear hok
                    generalize (restL b a t ends t.vals.length).2 = L at *
                    rw [← hLl]
                    repeat first | refine lwp_seq fun K hK => ?_ | (refine thenS_normal ?_; apply_assumption -exfalso -symm) | refine thenS_exit ?_ | refine thenS_ret ?_ | refine inBlockS_normal ?_ | refine inBlockS_ret ?_ | refine inBlockS_hit rfl ?_ | refine inBlockS_miss rfl ?_ | refine lwp_block ?_ | refine lwp_skip ?_ | refine lwp_exit ?_ | refine lwp_ret ?_ | refine lwp_label ?_ | refine lwp_region hC ⟨[], [], []⟩ (told0 _ _) rfl True.intro ?_ | refine lwp_region hC ⟨[], [], []⟩ (told0 _ _) rfl (by ((try simp only [AllL, All, cd_p, cp_p, cv_p, InK, and_true, true_and]); all_goals ((repeat' (first | refine And.intro ?_ ?_ | intro _)) <;> first | omega | exact True.intro | assumption | (simp; done) | rfl | (simp_all; done) | (simp_all; omega)))) ?_
                    (refine lwp_region hC ⟨[], [], [(2, Made_i (t.first - b) L [(0, some 6)])]⟩ (told1 _ (by rw [hP]; exact (calls_cons (Made_s _ _ _ (by omega)) calls_nil))) rfl ?_ ?_; rotate_left 1)
                    · repeat first | refine lwp_seq fun K hK => ?_ | (refine thenS_normal ?_; apply_assumption -exfalso -symm) | refine thenS_exit ?_ | refine thenS_ret ?_ | refine inBlockS_normal ?_ | refine inBlockS_ret ?_ | refine inBlockS_hit rfl ?_ | refine inBlockS_miss rfl ?_ | refine lwp_block ?_ | refine lwp_skip ?_ | refine lwp_exit ?_ | refine lwp_ret ?_ | refine lwp_label ?_ | refine lwp_region hC ⟨[], [], []⟩ (told0 _ _) rfl True.intro ?_ | refine lwp_region hC ⟨[], [], []⟩ (told0 _ _) rfl (by ((try simp only [AllL, All, cd_p, cp_p, cv_p, InK, and_true, true_and]); all_goals ((repeat' (first | refine And.intro ?_ ?_ | intro _)) <;> first | omega | exact True.intro | assumption | (simp; done) | rfl | (simp_all; done) | (simp_all; omega)))) ?_
                      rw [HRE.out, ← hMd]
                      generalize madeS (t.first - b) L = T at *
                      (refine end_intro (by first | exact .inr rfl | exact .inl rfl) [(3, some 8), (4, some 9)] rfl ?_)
                      ((try simp only [AllL, All, cd_p, cp_p, cv_p, InK, and_true, true_and]); all_goals ((repeat' (first | refine And.intro ?_ ?_ | intro _)) <;> first | omega | exact True.intro | assumption | (simp; done) | rfl | (simp_all; done) | (simp_all; omega)))
                    · ((try simp only [AllL, All, cd_p, cp_p, cv_p, InK, and_true, true_and]); all_goals ((repeat' (first | refine And.intro ?_ ?_ | intro _)) <;> first | omega | exact True.intro | assumption | (simp; done) | rfl | (simp_all; done) | (simp_all; omega)))
              · ((try simp only [AllL, All, cd_p, cp_p, cv_p, InK, and_true, true_and]); all_goals ((repeat' (first | refine And.intro ?_ ?_ | intro _)) <;> first | omega | exact True.intro | assumption | (simp; done) | rfl | (simp_all; done) | (simp_all; omega)))
    · ((try simp only [AllL, All, cd_p, cp_p, cv_p, InK, and_true, true_and]); all_goals ((repeat' (first | refine And.intro ?_ ?_ | intro _)) <;> first | omega | exact True.intro | assumption | (simp; done) | rfl | (simp_all; done) | (simp_all; omega)))

end Go.Proofs.YtbpffadffbgloaaGreatDoor
