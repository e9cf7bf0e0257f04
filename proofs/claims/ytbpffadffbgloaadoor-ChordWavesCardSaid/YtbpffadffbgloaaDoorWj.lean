/- Contract: Sees of the reference. -/
import Derived.Test.YtbpffadffbgloaaDoorWi
import Derived.Test.YtbpffadffbgloaaDoorWm
set_option linter.unusedVariables false
set_option linter.unusedSimpArgs false
namespace Go.Proofs.YtbpffadffbgloaaDoor
open Go.RowKit Go.Sym

/-- The reference's sum is that of the program. -/
def seR (b a : Int) (l : List Int) (p : Nat) : Int := (b + a) * l.getD p 0 - a * atW l ((p : Int) + -b) - b * atW l ((p : Int) + a)
theorem seR_eq (b a : Int) (l : List Int) (p : Nat) (hp : p < l.length) : seR b a l p = seK b a l (p : Int) 3 := by
  have e : atW l ((p : Int) + 0) = l.getD p 0 := by
    unfold atW
    rw [Int.add_zero, Int.emod_eq_of_lt (by omega) (by omega), Int.toNat_natCast]
  show (b + a) * l.getD p 0 - a * atW l ((p : Int) + -b) - b * atW l ((p : Int) + a) = 0 + (b + a) * atW l ((p : Int) + 0) + -a * atW l ((p : Int) + -b) + -b * atW l ((p : Int) + a)
  rw [e, Int.neg_mul, Int.neg_mul]
  omega
theorem before_at {n p b : Int} (hn : 1 ≤ n) (hp : 0 ≤ p) (hb : b ≤ 32) : (p + n * 32 - b).tmod n = (p + -b) % n := by
  rw [Int.tmod_eq_emod_of_nonneg (by omega)]
  have e : p + n * 32 - b = (p + -b) + n * 32 := by omega
  rw [e, Int.add_mul_emod_self_left]
def RSees_i (b a : Int) (l : List Int) (σ : Ren) : Inst := { f := 36, hin := [(0, .ro l.length 1 (.ints .i64 l))], args := [.agg [i64 b, i64 a], .sl 0 l.length], hout := [], ret := bl (seesS b a l), σ := σ }
set_option maxRecDepth 20000 in
set_option maxHeartbeats 8000000 in
theorem RSees_s (b a : Int) (l : List Int) (σ : Ren) (b0 : 1 ≤ b) (b1 : b ≤ 32) (a0 : 1 ≤ a) (a1 : a ≤ 32) (h0 : 1 ≤ l.length) (h1 : l.length ≤ 64) (hv : ∀ x ∈ l, -16384 ≤ x ∧ x ≤ 16384) : (RSees_i b a l σ).ok Tryd.prog := by
  have hat := atW_bound hv
  have HAT := Lib.hid hat
  have hg : ∀ i : Nat, -16384 ≤ l.getD i 0 ∧ l.getD i 0 ≤ 16384 := by
    intro i
    by_cases h : i < l.length
    · rw [List.getD_eq_getElem?_getD, List.getElem?_eq_getElem h]; exact hv _ (List.getElem_mem h)
    · rw [List.getD_eq_getElem?_getD, List.getElem?_eq_none (by omega)]; exact ⟨by decide, by decide⟩
  have HG := Lib.hid hg
  clear hat hv hg
  unfold RSees_i Inst.ok; dsimp only; refine spec_of_body (tys := tys) 1 Tryd.func36 (by kernel_rfl) rfl tys_ok rfl (Nat.le_of_ble_eq_true rfl) (fun _ _ h => (by cases h)) fun F hP hm hC => ?_; conv => whnf
  repeat first | refine lwp_seq fun K hK => ?_ | (refine thenS_normal ?_; apply_assumption -exfalso -symm) | refine thenS_exit ?_ | refine thenS_ret ?_ | refine inBlockS_normal ?_ | refine inBlockS_ret ?_ | refine inBlockS_hit rfl ?_ | refine inBlockS_miss rfl ?_ | refine lwp_block ?_ | refine lwp_skip ?_ | refine lwp_exit ?_ | refine lwp_ret ?_ | refine lwp_label ?_ | refine lwp_region hC ⟨[], [], []⟩ (told0 _ _) rfl True.intro ?_ | refine lwp_region hC ⟨[], [], []⟩ (told0 _ _) rfl (by ((try simp only [AllL, All, cd_p, cp_p, cv_p, InK, and_true, true_and]); all_goals ((repeat' (first | refine And.intro ?_ ?_ | intro _)) <;> first | omega | exact True.intro | assumption | (simp; done) | rfl | (simp_all; done) | (simp_all; omega)))) ?_
  refine lwp_loop (fun p : Nat => ⟨[(6, i64 p), (5, i64 l.length), (2, .ptr 1 0 0 0), (1, .sl 0 l.length)], [(1, .blk 23 [i64 b, i64 a]), (0, .ro l.length 1 (.ints .i64 l))], 2⟩) (fun p => p ≤ l.length ∧ ∀ q : Nat, q < p → seesP b a l q = false) (fun p => l.length - p) 0 ⟨?_, sub_intro hm [(0, some 0), (1, some 1)] rfl ?_⟩ ?_
  · exact ⟨Nat.zero_le _, fun i hi => absurd hi (Nat.not_lt_zero _)⟩
  · ((try simp only [AllL, All, cd_p, cp_p, cv_p, InK, and_true, true_and]); all_goals ((repeat' (first | refine And.intro ?_ ?_ | intro _)) <;> first | omega | exact True.intro | assumption | (simp; done) | rfl | (simp_all; done) | (simp_all; omega)))
  rintro p ⟨hp, hf⟩
  have hpp : ((p : Int)).toNat = p := Int.toNat_natCast p
  have HF := Lib.hid hf
  clear hf
  repeat first | refine lwp_seq fun K hK => ?_ | (refine thenS_normal ?_; apply_assumption -exfalso -symm) | refine thenS_exit ?_ | refine thenS_ret ?_ | refine inBlockS_normal ?_ | refine inBlockS_ret ?_ | refine inBlockS_hit rfl ?_ | refine inBlockS_miss rfl ?_ | refine lwp_block ?_ | refine lwp_skip ?_ | refine lwp_exit ?_ | refine lwp_ret ?_ | refine lwp_label ?_ | refine lwp_region hC ⟨[], [], []⟩ (told0 _ _) rfl True.intro ?_ | refine lwp_region hC ⟨[], [], []⟩ (told0 _ _) rfl (by ((try simp only [AllL, All, cd_p, cp_p, cv_p, InK, and_true, true_and]); all_goals ((repeat' (first | refine And.intro ?_ ?_ | intro _)) <;> first | omega | exact True.intro | assumption | (simp; done) | rfl | (simp_all; done) | (simp_all; omega)))) ?_
  (refine lwp_cond hC rfl (by first | exact True.intro | ((try simp only [AllL, All, cd_p, cp_p, cv_p, InK, and_true, true_and]); all_goals ((repeat' (first | refine And.intro ?_ ?_ | intro _)) <;> first | omega | exact True.intro | assumption | (simp; done) | rfl | (simp_all; done) | (simp_all; omega)))) (fun hb => ?_) (fun hb => ?_) <;> (try simp only [decide_eq_true_eq, decide_eq_false_iff_not, Bool.not_eq_true', Bool.not_eq_false', ne_eq, Decidable.not_not] at hb))
  · have hp2 : p < l.length := by omega
    clear hb
    have r1 := before_at (n := (l.length : Int)) (p := (p : Int)) (b := b) (by omega) (by omega) b1
    have r2 : ((p : Int) + a).tmod (l.length : Int) = ((p : Int) + a) % (l.length : Int) := Int.tmod_eq_emod_of_nonneg (by omega)
    have s1 := Int.emod_nonneg ((p : Int) + -b) (show (l.length : Int) ≠ 0 by omega)
    have s2 := Int.emod_lt_of_pos ((p : Int) + -b) (show (0 : Int) < (l.length : Int) by omega)
    have s3 := Int.emod_nonneg ((p : Int) + a) (show (l.length : Int) ≠ 0 by omega)
    have s4 := Int.emod_lt_of_pos ((p : Int) + a) (show (0 : Int) < (l.length : Int) by omega)
    repeat first | refine lwp_seq fun K hK => ?_ | (refine thenS_normal ?_; apply_assumption -exfalso -symm) | refine thenS_exit ?_ | refine thenS_ret ?_ | refine inBlockS_normal ?_ | refine inBlockS_ret ?_ | refine inBlockS_hit rfl ?_ | refine inBlockS_miss rfl ?_ | refine lwp_block ?_ | refine lwp_skip ?_ | refine lwp_exit ?_ | refine lwp_ret ?_ | refine lwp_label ?_ | refine lwp_region hC ⟨[], [], []⟩ (told0 _ _) rfl True.intro ?_ | refine lwp_region hC ⟨[], [], []⟩ (told0 _ _) rfl (by ((try simp only [AllL, All, cd_p, cp_p, cv_p, InK, and_true, true_and]); all_goals ((repeat' (first | refine And.intro ?_ ?_ | intro _)) <;> first | omega | exact True.intro | assumption | (simp; done) | rfl | (simp_all; done) | (simp_all; omega)))) ?_
    (refine lwp_drawn2 hC (by rw [hP]; exact mixed) ⟨[], [], []⟩ (told0 _ _) [0, 0, 0, 4, 14, 0, 32, 126, 0, 510, 1023, 2047, 0, 0, 0, 16384, 57344, 0, 253952, 520192, 1044480, 4095, 4194303] 23 0 rfl ?_ ?_; rotate_left 1)
    · have e1 : l.getD (((p : Int) + -b) % (l.length : Int)).toNat 0 = atW l ((p : Int) + -b) := rfl
      have e2 : l.getD (((p : Int) + a) % (l.length : Int)).toNat 0 = atW l ((p : Int) + a) := rfl
      have q1 := mulL (x := b + a) (by omega) (by omega) (HG.out p)
      have q2 := mulL (x := a) (by omega) (by omega) (HAT.out ((p : Int) + -b))
      have q3 := mulL (x := b) (by omega) (by omega) (HAT.out ((p : Int) + a))
      have hse := seR_eq b a l p hp2
      unfold seR at hse
      have HSE := Lib.hid hse
      clear hse
      rw [r1, r2, e1, e2]
      clear r1 r2 e1 e2 s1 s2 s3 s4
      repeat first | refine lwp_seq fun K hK => ?_ | (refine thenS_normal ?_; apply_assumption -exfalso -symm) | refine thenS_exit ?_ | refine thenS_ret ?_ | refine inBlockS_normal ?_ | refine inBlockS_ret ?_ | refine inBlockS_hit rfl ?_ | refine inBlockS_miss rfl ?_ | refine lwp_block ?_ | refine lwp_skip ?_ | refine lwp_exit ?_ | refine lwp_ret ?_ | refine lwp_label ?_ | refine lwp_region hC ⟨[], [], []⟩ (told0 _ _) rfl True.intro ?_ | refine lwp_region hC ⟨[], [], []⟩ (told0 _ _) rfl (by ((try simp only [AllL, All, cd_p, cp_p, cv_p, InK, and_true, true_and]); all_goals ((repeat' (first | refine And.intro ?_ ?_ | intro _)) <;> first | omega | exact True.intro | assumption | (simp; done) | rfl | (simp_all; done) | (simp_all; omega)))) ?_
      (refine lwp_drawn2 hC (by rw [hP]; exact mixed) ⟨[], [], []⟩ (told0 _ _) [0, 1, 0, 4, 15, 0, 0, 96, 224, 511, 0, 1024, 0, 7168, 16383, 0, 32768, 0, 229376, 524287, 1048575] 21 0 rfl ?_ ?_; rotate_left 1)
      · repeat first | refine lwp_seq fun K hK => ?_ | (refine thenS_normal ?_; apply_assumption -exfalso -symm) | refine thenS_exit ?_ | refine thenS_ret ?_ | refine inBlockS_normal ?_ | refine inBlockS_ret ?_ | refine inBlockS_hit rfl ?_ | refine inBlockS_miss rfl ?_ | refine lwp_block ?_ | refine lwp_skip ?_ | refine lwp_exit ?_ | refine lwp_ret ?_ | refine lwp_label ?_ | refine lwp_region hC ⟨[], [], []⟩ (told0 _ _) rfl True.intro ?_ | refine lwp_region hC ⟨[], [], []⟩ (told0 _ _) rfl (by ((try simp only [AllL, All, cd_p, cp_p, cv_p, InK, and_true, true_and]); all_goals ((repeat' (first | refine And.intro ?_ ?_ | intro _)) <;> first | omega | exact True.intro | assumption | (simp; done) | rfl | (simp_all; done) | (simp_all; omega)))) ?_
        simp only [hpp]
        (refine lwp_cond hC rfl (by first | exact True.intro | ((try simp only [AllL, All, cd_p, cp_p, cv_p, InK, and_true, true_and]); all_goals ((repeat' (first | refine And.intro ?_ ?_ | intro _)) <;> first | omega | exact True.intro | assumption | (simp; done) | rfl | (simp_all; done) | (simp_all; omega)))) (fun hb => ?_) (fun hb => ?_) <;> (try simp only [decide_eq_true_eq, decide_eq_false_iff_not, Bool.not_eq_true', Bool.not_eq_false', ne_eq, Decidable.not_not] at hb))
        · have hs := seesS_true (b := b) (a := a) hp2 (by unfold seesP; rw [← HSE.out]; exact decide_eq_true hb)
          repeat first | refine lwp_seq fun K hK => ?_ | (refine thenS_normal ?_; apply_assumption -exfalso -symm) | refine thenS_exit ?_ | refine thenS_ret ?_ | refine inBlockS_normal ?_ | refine inBlockS_ret ?_ | refine inBlockS_hit rfl ?_ | refine inBlockS_miss rfl ?_ | refine lwp_block ?_ | refine lwp_skip ?_ | refine lwp_exit ?_ | refine lwp_ret ?_ | refine lwp_label ?_ | refine lwp_region hC ⟨[], [], []⟩ (told0 _ _) rfl True.intro ?_ | refine lwp_region hC ⟨[], [], []⟩ (told0 _ _) rfl (by ((try simp only [AllL, All, cd_p, cp_p, cv_p, InK, and_true, true_and]); all_goals ((repeat' (first | refine And.intro ?_ ?_ | intro _)) <;> first | omega | exact True.intro | assumption | (simp; done) | rfl | (simp_all; done) | (simp_all; omega)))) ?_
          rw [hs]
          (refine end_intro (by first | exact .inr rfl | exact .inl rfl) [] rfl ?_)
          ((try simp only [AllL, All, cd_p, cp_p, cv_p, InK, and_true, true_and]); all_goals ((repeat' (first | refine And.intro ?_ ?_ | intro _)) <;> first | omega | exact True.intro | assumption | (simp; done) | rfl | (simp_all; done) | (simp_all; omega)))
        · have hs : seesP b a l p = false := by unfold seesP; rw [← HSE.out]; exact decide_eq_false (by simpa using hb)
          repeat first | refine lwp_seq fun K hK => ?_ | (refine thenS_normal ?_; apply_assumption -exfalso -symm) | refine thenS_exit ?_ | refine thenS_ret ?_ | refine inBlockS_normal ?_ | refine inBlockS_ret ?_ | refine inBlockS_hit rfl ?_ | refine inBlockS_miss rfl ?_ | refine lwp_block ?_ | refine lwp_skip ?_ | refine lwp_exit ?_ | refine lwp_ret ?_ | refine lwp_label ?_ | refine lwp_region hC ⟨[], [], []⟩ (told0 _ _) rfl True.intro ?_ | refine lwp_region hC ⟨[], [], []⟩ (told0 _ _) rfl (by ((try simp only [AllL, All, cd_p, cp_p, cv_p, InK, and_true, true_and]); all_goals ((repeat' (first | refine And.intro ?_ ?_ | intro _)) <;> first | omega | exact True.intro | assumption | (simp; done) | rfl | (simp_all; done) | (simp_all; omega)))) ?_
          refine thenS_normal ⟨p + 1, ?_, ?_, sub_intro hm [(0, some 0), (1, some 1)] rfl ?_⟩
          · refine ⟨hp2, fun q hq => ?_⟩
            by_cases e : q = p
            · subst e; exact hs
            · exact HF.out q (by omega)
          · omega
          · ((try simp only [AllL, All, cd_p, cp_p, cv_p, InK, and_true, true_and]); all_goals ((repeat' (first | refine And.intro ?_ ?_ | intro _)) <;> first | omega | exact True.intro | assumption | (simp; done) | rfl | (simp_all; done) | (simp_all; omega)))
      · simp only [AllL, All, cd_p, cp_p, cv_p, InK, hpp]
        (repeat' (first | refine And.intro ?_ ?_ | intro _)) <;> first | omega | trivial | rfl
    · simp only [AllL, All, cd_p, cp_p, cv_p, InK, r1, r2]
      (repeat' (first | refine And.intro ?_ ?_ | intro _)) <;> first | omega | trivial | rfl
  · have hk3 : p = l.length := by omega
    subst hk3
    have hs := seesS_false HF.out
    repeat first | refine lwp_seq fun K hK => ?_ | (refine thenS_normal ?_; apply_assumption -exfalso -symm) | refine thenS_exit ?_ | refine thenS_ret ?_ | refine inBlockS_normal ?_ | refine inBlockS_ret ?_ | refine inBlockS_hit rfl ?_ | refine inBlockS_miss rfl ?_ | refine lwp_block ?_ | refine lwp_skip ?_ | refine lwp_exit ?_ | refine lwp_ret ?_ | refine lwp_label ?_ | refine lwp_region hC ⟨[], [], []⟩ (told0 _ _) rfl True.intro ?_ | refine lwp_region hC ⟨[], [], []⟩ (told0 _ _) rfl (by ((try simp only [AllL, All, cd_p, cp_p, cv_p, InK, and_true, true_and]); all_goals ((repeat' (first | refine And.intro ?_ ?_ | intro _)) <;> first | omega | exact True.intro | assumption | (simp; done) | rfl | (simp_all; done) | (simp_all; omega)))) ?_
    rw [hs]
    (refine end_intro (by first | exact .inr rfl | exact .inl rfl) [] rfl ?_)
    ((try simp only [AllL, All, cd_p, cp_p, cv_p, InK, and_true, true_and]); all_goals ((repeat' (first | refine And.intro ?_ ?_ | intro _)) <;> first | omega | exact True.intro | assumption | (simp; done) | rfl | (simp_all; done) | (simp_all; omega)))

end Go.Proofs.YtbpffadffbgloaaDoor
