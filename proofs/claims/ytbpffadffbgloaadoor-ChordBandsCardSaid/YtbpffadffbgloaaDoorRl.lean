/- Contracts of the reference: ones, smoothed, checkBand, band. -/
import Derived.Test.YtbpffadffbgloaaDoorRg
import Derived.Test.YtbpffadffbgloaaDoorRt
set_option linter.unusedVariables false
set_option linter.unusedSimpArgs false
namespace Go.Proofs.YtbpffadffbgloaaDoor
open Go.RowKit Go.Sym

def Ones_i (n w : Int) (σ : Ren) : Inst := { f := 91, hin := [], args := [i64 n, i64 w], hout := [(0, .row 3 n.toNat 1 (.ints .i64 (onesW n.toNat w)))], ret := .sl 0 n.toNat, σ := σ }
set_option maxHeartbeats 1000000 in
theorem Ones_s (n w : Int) (σ : Ren) (h0 : 0 ≤ n) (h1 : n ≤ 1000) : (Ones_i n w σ).ok Tryd.prog := by
  unfold Ones_i Inst.ok; dsimp only; refine spec_of_body (tys := tys) 0 Tryd.func91 (by kernel_rfl) rfl tys_ok rfl (Nat.le_of_ble_eq_true rfl) (fun _ _ h => (by cases h)) fun F hP hm hC => ?_; conv => whnf
  (repeat (first | (refine lwp_seq fun K hK => ?_) | (refine thenS_normal ?_; apply_assumption -exfalso -symm) | (refine thenS_exit ?_) | (refine thenS_ret ?_) | (refine inBlockS_normal ?_) | (refine inBlockS_ret ?_) | (refine inBlockS_hit rfl ?_) | (refine inBlockS_miss rfl ?_) | (refine lwp_block ?_) | (refine lwp_skip ?_) | (refine lwp_exit ?_) | (refine lwp_ret ?_) | (refine lwp_label ?_) | (refine lwp_region hC ⟨[], [], []⟩ (told0 _ _) rfl True.intro ?_) | (refine lwp_region hC ⟨[], [], []⟩ (told0 _ _) rfl (by ((try simp only [AllL, All, cd_p, cp_p, cv_p, InK, and_true, true_and]); all_goals ((repeat' (first | refine And.intro ?_ ?_ | intro _)) <;> first | omega | exact True.intro | assumption | (simp; done) | rfl | (simp_all; done) | (simp_all; omega)))) ?_)))
  refine lwp_loop (fun k : Nat => ⟨[(6, i64 k), (5, .sl 0 k), (1, i64 w), (0, i64 n)], [(0, .row 3 k 1 (.ints .i64 (onesW k w)))], 1⟩) (fun k => (k : Int) ≤ n) (fun k => n.toNat - k) 0 ⟨?_, sub_intro hm [(0, none)] rfl ?_⟩ ?_
  · omega
  · ((try simp only [AllL, All, cd_p, cp_p, cv_p, InK, and_true, true_and]); all_goals ((repeat' (first | refine And.intro ?_ ?_ | intro _)) <;> first | omega | exact True.intro | assumption | (simp; done) | rfl | (simp_all; done) | (simp_all; omega)))
  · rintro k hk
    have hs : onesW (k + 1) w = onesW k w ++ [w] := by unfold onesW; exact List.replicate_succ'
    (repeat (first | (refine lwp_seq fun K hK => ?_) | (refine thenS_normal ?_; apply_assumption -exfalso -symm) | (refine thenS_exit ?_) | (refine thenS_ret ?_) | (refine inBlockS_normal ?_) | (refine inBlockS_ret ?_) | (refine inBlockS_hit rfl ?_) | (refine inBlockS_miss rfl ?_) | (refine lwp_block ?_) | (refine lwp_skip ?_) | (refine lwp_exit ?_) | (refine lwp_ret ?_) | (refine lwp_label ?_) | (refine lwp_region hC ⟨[], [], []⟩ (told0 _ _) rfl True.intro ?_) | (refine lwp_region hC ⟨[], [], []⟩ (told0 _ _) rfl (by ((try simp only [AllL, All, cd_p, cp_p, cv_p, InK, and_true, true_and]); all_goals ((repeat' (first | refine And.intro ?_ ?_ | intro _)) <;> first | omega | exact True.intro | assumption | (simp; done) | rfl | (simp_all; done) | (simp_all; omega)))) ?_)))
    (refine lwp_cond hC rfl (by first | exact True.intro | ((try simp only [AllL, All, cd_p, cp_p, cv_p, InK, and_true, true_and]); all_goals ((repeat' (first | refine And.intro ?_ ?_ | intro _)) <;> first | omega | exact True.intro | assumption | (simp; done) | rfl | (simp_all; done) | (simp_all; omega)))) (fun hb => ?_) (fun hb => ?_) <;> (try simp only [decide_eq_true_eq, decide_eq_false_iff_not, Bool.not_eq_true', Bool.not_eq_false', ne_eq, Decidable.not_not] at hb))
    · (repeat (first | (refine lwp_seq fun K hK => ?_) | (refine thenS_normal ?_; apply_assumption -exfalso -symm) | (refine thenS_exit ?_) | (refine thenS_ret ?_) | (refine inBlockS_normal ?_) | (refine inBlockS_ret ?_) | (refine inBlockS_hit rfl ?_) | (refine inBlockS_miss rfl ?_) | (refine lwp_block ?_) | (refine lwp_skip ?_) | (refine lwp_exit ?_) | (refine lwp_ret ?_) | (refine lwp_label ?_) | (refine lwp_region hC ⟨[], [], []⟩ (told0 _ _) rfl True.intro ?_) | (refine lwp_region hC ⟨[], [], []⟩ (told0 _ _) rfl (by ((try simp only [AllL, All, cd_p, cp_p, cv_p, InK, and_true, true_and]); all_goals ((repeat' (first | refine And.intro ?_ ?_ | intro _)) <;> first | omega | exact True.intro | assumption | (simp; done) | rfl | (simp_all; done) | (simp_all; omega)))) ?_)))
      refine thenS_normal ⟨k + 1, ?_, ?_, sub_intro hm [(0, some 2)] rfl ?_⟩
      · omega
      · omega
      · rw [hs]; ((try simp only [AllL, All, cd_p, cp_p, cv_p, InK, and_true, true_and]); all_goals ((repeat' (first | refine And.intro ?_ ?_ | intro _)) <;> first | omega | exact True.intro | assumption | (simp; done) | rfl | (simp_all; done) | (simp_all; omega)))
    · have e : k = n.toNat := by omega
      subst e
      (repeat (first | (refine lwp_seq fun K hK => ?_) | (refine thenS_normal ?_; apply_assumption -exfalso -symm) | (refine thenS_exit ?_) | (refine thenS_ret ?_) | (refine inBlockS_normal ?_) | (refine inBlockS_ret ?_) | (refine inBlockS_hit rfl ?_) | (refine inBlockS_miss rfl ?_) | (refine lwp_block ?_) | (refine lwp_skip ?_) | (refine lwp_exit ?_) | (refine lwp_ret ?_) | (refine lwp_label ?_) | (refine lwp_region hC ⟨[], [], []⟩ (told0 _ _) rfl True.intro ?_) | (refine lwp_region hC ⟨[], [], []⟩ (told0 _ _) rfl (by ((try simp only [AllL, All, cd_p, cp_p, cv_p, InK, and_true, true_and]); all_goals ((repeat' (first | refine And.intro ?_ ?_ | intro _)) <;> first | omega | exact True.intro | assumption | (simp; done) | rfl | (simp_all; done) | (simp_all; omega)))) ?_)))
      (refine end_intro (by first | exact .inr rfl | exact .inl rfl) [(0, some 0)] rfl ?_)
      ((try simp only [AllL, All, cd_p, cp_p, cv_p, InK, and_true, true_and]); all_goals ((repeat' (first | refine And.intro ?_ ?_ | intro _)) <;> first | omega | exact True.intro | assumption | (simp; done) | rfl | (simp_all; done) | (simp_all; omega)))

theorem onesW_small (n : Nat) (k : Nat) : -4096 ≤ (onesW n 1).getD k 0 ∧ (onesW n 1).getD k 0 ≤ 4096 := by
  unfold onesW
  rw [List.getD_eq_getElem?_getD, List.getElem?_replicate]
  split <;> simp
theorem sumOk_smoothed {t : Tr} (h : ShortOk t) (half : Int) (h0 : 0 ≤ half) (h1 : half ≤ 64) : SumOk t (onesW (2 * half + 1).toNat 1) half half 1 :=
  ⟨h.ok.f0, h.ok.f1, h.ok.len, h.hol, h.ok.val, by simp only [onesW, List.length_replicate]; omega, onesW_small _, by omega, by omega, by omega, by omega, by omega, by omega, fun k hk => by simp only [onesW, List.length_replicate] at hk; omega⟩
def RSmoothed_i (t : Tr) (half : Int) (σ : Ren) : Inst := { f := 43, hin := trIn t, args := [trA 0 1 t, i64 half], hout := trW 2 (RSmoothedS t half), ret := trR 2 (RSmoothedS t half), σ := σ }
set_option maxRecDepth 20000 in
set_option maxHeartbeats 2000000 in
theorem RSmoothed_s (t : Tr) (half : Int) (σ : Ren) (h : ShortOk t) (h0 : 0 ≤ half) (h1 : half ≤ 64) : (RSmoothed_i t half σ).ok Tryd.prog := by
  have hs := sumOk_smoothed h half h0 h1
  have hl : (onesW (2 * half + 1).toNat 1).length = (2 * half + 1).toNat := by simp [onesW]
  unfold RSmoothed_i Inst.ok; dsimp only; refine spec_of_body (tys := tys) 2 Tryd.func43 (by kernel_rfl) rfl tys_ok rfl (Nat.le_of_ble_eq_true rfl) (fun _ _ h => (by cases h)) fun F hP hm hC => ?_; conv => whnf
  (repeat (first | (refine lwp_seq fun K hK => ?_) | (refine thenS_normal ?_; apply_assumption -exfalso -symm) | (refine thenS_exit ?_) | (refine thenS_ret ?_) | (refine inBlockS_normal ?_) | (refine inBlockS_ret ?_) | (refine inBlockS_hit rfl ?_) | (refine inBlockS_miss rfl ?_) | (refine lwp_block ?_) | (refine lwp_skip ?_) | (refine lwp_exit ?_) | (refine lwp_ret ?_) | (refine lwp_label ?_) | (refine lwp_region hC ⟨[], [], []⟩ (told0 _ _) rfl True.intro ?_) | (refine lwp_region hC ⟨[], [], []⟩ (told0 _ _) rfl (by ((try simp only [AllL, All, cd_p, cp_p, cv_p, InK, and_true, true_and]); all_goals ((repeat' (first | refine And.intro ?_ ?_ | intro _)) <;> first | omega | exact True.intro | assumption | (simp; done) | rfl | (simp_all; done) | (simp_all; omega)))) ?_)))
  (refine lwp_drawn hC (by rw [hP]; exact mixed) ⟨[], [], [(4, Ones_i (2 * half + 1) 1 []), (7, Summed_i t (onesW (2 * half + 1).toNat 1) half half 1 [(0, some 0), (1, some 1), (2, some 4)])]⟩ (told1 _ (by rw [hP]; exact (calls_cons (Ones_s _ _ _ (by omega) (by omega)) (calls_cons (Summed_s _ _ _ _ _ _ hs) calls_nil)))) [0, 0, 2, 6, 14, 0, 0, 127, 255, 255, 1023, 2047] 10 rfl ?_ ?_; rotate_left 1)
  · (repeat (first | (refine lwp_seq fun K hK => ?_) | (refine thenS_normal ?_; apply_assumption -exfalso -symm) | (refine thenS_exit ?_) | (refine thenS_ret ?_) | (refine inBlockS_normal ?_) | (refine inBlockS_ret ?_) | (refine inBlockS_hit rfl ?_) | (refine inBlockS_miss rfl ?_) | (refine lwp_block ?_) | (refine lwp_skip ?_) | (refine lwp_exit ?_) | (refine lwp_ret ?_) | (refine lwp_label ?_) | (refine lwp_region hC ⟨[], [], []⟩ (told0 _ _) rfl True.intro ?_) | (refine lwp_region hC ⟨[], [], []⟩ (told0 _ _) rfl (by ((try simp only [AllL, All, cd_p, cp_p, cv_p, InK, and_true, true_and]); all_goals ((repeat' (first | refine And.intro ?_ ?_ | intro _)) <;> first | omega | exact True.intro | assumption | (simp; done) | rfl | (simp_all; done) | (simp_all; omega)))) ?_)))
    show EndPost _ _ _ (trW 2 (RSmoothedS t half)) (trR 2 (RSmoothedS t half)) _ _
    unfold RSmoothedS
    generalize summedS t.first (valuesS t.vals t.holes) (onesW (2 * half + 1).toNat 1) half half 1 = T at *
    (refine end_intro (by first | exact .inr rfl | exact .inl rfl) [(2, some 5), (3, some 6)] rfl ?_)
    ((try simp only [AllL, All, cd_p, cp_p, cv_p, InK, and_true, true_and]); all_goals ((repeat' (first | refine And.intro ?_ ?_ | intro _)) <;> first | omega | exact True.intro | assumption | (simp; done) | rfl | (simp_all; done) | (simp_all; omega)))
  · simp only [AllL, All, cd_p, cp_p, cv_p, InK]
    (repeat' refine And.intro ?_ ?_) <;> first | omega | trivial | rfl

def bandCS (short long : Int) : Int := firstS [withinS short 0 64, withinS long 0 64, whenS (decide (long ≤ short)) 11]
def CheckBand_i (short long : Int) : Inst := { f := 42, hin := [], args := [i64 short, i64 long], hout := [], ret := i64 (bandCS short long), σ := [] }
theorem CheckBand_s (short long : Int) : (CheckBand_i short long).ok Tryd.prog := by
  unfold CheckBand_i Inst.ok; dsimp only; refine spec_of_body (tys := tys) 0 Tryd.func42 (by kernel_rfl) rfl tys_ok rfl (Nat.le_of_ble_eq_true rfl) (fun _ _ h => (by cases h)) fun F hP hm hC => ?_; conv => whnf
  (repeat (first | (refine lwp_seq fun K hK => ?_) | (refine thenS_normal ?_; apply_assumption -exfalso -symm) | (refine thenS_exit ?_) | (refine thenS_ret ?_) | (refine inBlockS_normal ?_) | (refine inBlockS_ret ?_) | (refine inBlockS_hit rfl ?_) | (refine inBlockS_miss rfl ?_) | (refine lwp_block ?_) | (refine lwp_skip ?_) | (refine lwp_exit ?_) | (refine lwp_ret ?_) | (refine lwp_label ?_) | (refine lwp_region hC ⟨[], [], []⟩ (told0 _ _) rfl True.intro ?_) | (refine lwp_region hC ⟨[], [], []⟩ (told0 _ _) rfl (by ((try simp only [AllL, All, cd_p, cp_p, cv_p, InK, and_true, true_and]); all_goals ((repeat' (first | refine And.intro ?_ ?_ | intro _)) <;> first | omega | exact True.intro | assumption | (simp; done) | rfl | (simp_all; done) | (simp_all; omega)))) ?_)))
  (refine lwp_region hC ⟨[], [], [(1, CheckRange_i short 0 64), (3, CheckRange_i long 0 64), (7, When_i (decide (long ≤ short)) 11), (9, First_i [withinS short 0 64, withinS long 0 64, whenS (decide (long ≤ short)) 11] [(0, some 0)])]⟩ (told1 _ (by rw [hP]; exact (calls_cons (CheckRange_s _ _ _) (calls_cons (CheckRange_s _ _ _) (calls_cons (When_s _ _) (calls_cons (First_s _ _ (by simp)) calls_nil)))))) rfl ?_ ?_; rotate_left 1)
  · (repeat (first | (refine lwp_seq fun K hK => ?_) | (refine thenS_normal ?_; apply_assumption -exfalso -symm) | (refine thenS_exit ?_) | (refine thenS_ret ?_) | (refine inBlockS_normal ?_) | (refine inBlockS_ret ?_) | (refine inBlockS_hit rfl ?_) | (refine inBlockS_miss rfl ?_) | (refine lwp_block ?_) | (refine lwp_skip ?_) | (refine lwp_exit ?_) | (refine lwp_ret ?_) | (refine lwp_label ?_) | (refine lwp_region hC ⟨[], [], []⟩ (told0 _ _) rfl True.intro ?_) | (refine lwp_region hC ⟨[], [], []⟩ (told0 _ _) rfl (by ((try simp only [AllL, All, cd_p, cp_p, cv_p, InK, and_true, true_and]); all_goals ((repeat' (first | refine And.intro ?_ ?_ | intro _)) <;> first | omega | exact True.intro | assumption | (simp; done) | rfl | (simp_all; done) | (simp_all; omega)))) ?_)))
    (refine end_intro (by first | exact .inr rfl | exact .inl rfl) [] rfl ?_)
    exact ⟨rfl, trivial⟩
  · ((try simp only [AllL, All, cd_p, cp_p, cv_p, InK, and_true, true_and]); all_goals ((repeat' (first | refine And.intro ?_ ?_ | intro _)) <;> first | omega | exact True.intro | assumption | (simp; done) | rfl | (simp_all; done) | (simp_all; omega)))

/-- The weights of a band after some rounds. -/
def bandK (short long : Int) (j : Nat) : List Int := (List.range (2 * long + 1).toNat).map fun (k : Nat) => if long - short ≤ (k : Int) ∧ (k : Int) < long - short + j then -(2 * short + 1) + 2 * long + 1 else -(2 * short + 1)
theorem bandK_len (short long : Int) (j : Nat) : (bandK short long j).length = (2 * long + 1).toNat := by simp [bandK]
theorem bandK_zero (short long : Int) : bandK short long 0 = onesW (2 * long + 1).toNat (0 - (2 * short + 1)) := by
  refine List.ext_getElem (by simp [bandK, onesW]) fun k h1 h2 => ?_
  simp only [bandK, onesW, List.getElem_map, List.getElem_range, List.getElem_replicate]
  rw [if_neg (by omega)]; omega
theorem bandK_end (short long : Int) (h0 : 0 ≤ short) : bandK short long (2 * short + 1).toNat = bandW short long := by
  unfold bandK bandW
  refine List.map_congr_left fun k _ => ?_
  by_cases h : long - short ≤ (k : Int) ∧ (k : Int) ≤ long + short
  · rw [if_pos h, if_pos (by omega)]
  · rw [if_neg h, if_neg (by omega)]
theorem bandK_at (short long : Int) (j : Nat) (h0 : 0 ≤ short) (h1 : short < long) (hj : (j : Int) ≤ 2 * short) : (bandK short long j).getD (long - short + j).toNat 0 = -(2 * short + 1) := by
  have hk : (long - short + (j : Int)).toNat < (2 * long + 1).toNat := by omega
  simp only [bandK, List.getD_eq_getElem?_getD, List.getElem?_map, List.getElem?_range hk, Option.map_some, Option.getD_some]
  rw [if_neg (by omega)]
theorem bandK_set (short long : Int) (j : Nat) (h0 : 0 ≤ short) (h1 : short < long) (hj : (j : Int) ≤ 2 * short) : bandK short long (j + 1) = (bandK short long j).set (long - short + j).toNat (-(2 * short + 1) + 2 * long + 1) := by
  refine List.ext_getElem (by simp [bandK]) fun k h2 h3 => ?_
  rw [List.getElem_set]
  simp only [bandK, List.getElem_map, List.getElem_range]
  by_cases e : (long - short + (j : Int)).toNat = k
  · rw [if_pos e, if_pos (by omega)]
  · rw [if_neg e]
    by_cases h : long - short ≤ (k : Int) ∧ (k : Int) < long - short + j
    · rw [if_pos h, if_pos (by omega)]
    · rw [if_neg h, if_neg (by omega)]
theorem bandW_small (short long : Int) (h0 : 0 ≤ short) (h1 : short < long) (h2 : long ≤ 64) (k : Nat) : -4096 ≤ (bandW short long).getD k 0 ∧ (bandW short long).getD k 0 ≤ 4096 := by
  by_cases h : k < (2 * long + 1).toNat
  · have : (bandW short long).getD k 0 = if long - short ≤ (k : Int) ∧ (k : Int) ≤ long + short then -(2 * short + 1) + 2 * long + 1 else -(2 * short + 1) := by simp [bandW, h]
    rw [this]
    split <;> omega
  · rw [List.getD_eq_getElem?_getD, List.getElem?_eq_none (by rw [bandW_len]; omega)]
    exact ⟨by decide, by decide⟩
/-- A part of a band's sum. -/
def bpart (vs : List (Int × Bool)) (ws : List Int) (q k : Nat) : Int × Bool := (List.range k).foldl (bstep vs ws q) (0, true)
theorem bpart_succ (vs : List (Int × Bool)) (ws : List Int) (q k : Nat) : bpart vs ws q (k + 1) = bstep vs ws q (bpart vs ws q k) k := by
  unfold bpart; rw [List.range_succ, List.foldl_append]; rfl
theorem bpart_small {t : Tr} {ws : List Int} (hval : ∀ x ∈ t.vals, -1073741824 ≤ x ∧ x ≤ 1073741824) (hw : ∀ k : Nat, -4096 ≤ ws.getD k 0 ∧ ws.getD k 0 ≤ 4096) (q : Nat) : ∀ k : Nat, -(4398046511104 * (k : Int)) ≤ (bpart (valuesS t.vals t.holes) ws q k).1 ∧ (bpart (valuesS t.vals t.holes) ws q k).1 ≤ 4398046511104 * (k : Int)
  | 0 => by simp [bpart]
  | k + 1 => by
    rw [bpart_succ]
    have ih := bpart_small hval hw q k
    have h1 := hw k
    have h2 := values_small (t := t) hval (q + k)
    have h3 := mul_small h1.1 h1.2 h2.1 h2.2
    unfold bstep
    dsimp only; omega
theorem bandL_len (vs : List (Int × Bool)) (ws : List Int) (long : Int) : (bandL vs ws long).length = ((vs.length : Int) - long - long).toNat := by simp [bandL]
theorem bandL_get (vs : List (Int × Bool)) (ws : List Int) (long : Int) (i : Nat) (h : i < (bandL vs ws long).length) : (bandL vs ws long).getD i (0, false) = bpart vs ws i ws.length := by
  rw [bandL_len] at h
  simp [bandL, h, bsum, bpart]

def RBand_i (t : Tr) (short long : Int) (σ : Ren) : Inst := { f := 44, hin := trIn t, args := [trA 0 1 t, i64 short, i64 long], hout := trW 2 (RBandS t short long), ret := trR 2 (RBandS t short long), σ := σ }
set_option maxRecDepth 20000 in
set_option maxHeartbeats 4000000 in
theorem RBand_s (t : Tr) (short long : Int) (σ : Ren) (h : ShortOk t) (h0 : 0 ≤ short) (h1 : short < long) (h2 : long ≤ 64) : (RBand_i t short long σ).ok Tryd.prog := by
  have hVl := valuesS_len t.vals t.holes
  have hval := h.ok.val
  have hlen := h.ok.len
  have hhol := h.hol
  have hf0 := h.ok.f0
  have hf1 := h.ok.f1
  have hwv := bandW_small short long h0 h1 h2
  have hwl := bandW_len short long
  unfold RBand_i Inst.ok; dsimp only; refine spec_of_body (tys := tys) 2 Tryd.func44 (by kernel_rfl) rfl tys_ok rfl (Nat.le_of_ble_eq_true rfl) (fun _ _ h => (by cases h)) fun F hP hm hC => ?_; conv => whnf
  (repeat (first | (refine lwp_seq fun K hK => ?_) | (refine thenS_normal ?_; apply_assumption -exfalso -symm) | (refine thenS_exit ?_) | (refine thenS_ret ?_) | (refine inBlockS_normal ?_) | (refine inBlockS_ret ?_) | (refine inBlockS_hit rfl ?_) | (refine inBlockS_miss rfl ?_) | (refine lwp_block ?_) | (refine lwp_skip ?_) | (refine lwp_exit ?_) | (refine lwp_ret ?_) | (refine lwp_label ?_) | (refine lwp_region hC ⟨[], [], []⟩ (told0 _ _) rfl True.intro ?_) | (refine lwp_region hC ⟨[], [], []⟩ (told0 _ _) rfl (by ((try simp only [AllL, All, cd_p, cp_p, cv_p, InK, and_true, true_and]); all_goals ((repeat' (first | refine And.intro ?_ ?_ | intro _)) <;> first | omega | exact True.intro | assumption | (simp; done) | rfl | (simp_all; done) | (simp_all; omega)))) ?_)))
  (refine lwp_region hC ⟨[], [], [(7, Ones_i (2 * long + 1) (0 - (2 * short + 1)) [])]⟩ (told1 _ (by rw [hP]; exact (calls_cons (Ones_s _ _ _ (by omega) (by omega)) calls_nil))) rfl ?_ ?_; rotate_left 1)
  · (repeat (first | (refine lwp_seq fun K hK => ?_) | (refine thenS_normal ?_; apply_assumption -exfalso -symm) | (refine thenS_exit ?_) | (refine thenS_ret ?_) | (refine inBlockS_normal ?_) | (refine inBlockS_ret ?_) | (refine inBlockS_hit rfl ?_) | (refine inBlockS_miss rfl ?_) | (refine lwp_block ?_) | (refine lwp_skip ?_) | (refine lwp_exit ?_) | (refine lwp_ret ?_) | (refine lwp_label ?_) | (refine lwp_region hC ⟨[], [], []⟩ (told0 _ _) rfl True.intro ?_) | (refine lwp_region hC ⟨[], [], []⟩ (told0 _ _) rfl (by ((try simp only [AllL, All, cd_p, cp_p, cv_p, InK, and_true, true_and]); all_goals ((repeat' (first | refine And.intro ?_ ?_ | intro _)) <;> first | omega | exact True.intro | assumption | (simp; done) | rfl | (simp_all; done) | (simp_all; omega)))) ?_)))
    rw [← bandK_zero]
    refine lwp_loop (fun j : Nat => ⟨[(9, i64 (long - short + j)), (8, .sl 4 (2 * long + 1).toNat), (6, .ptr 3 0 0 0), (3, .ptr 2 0 0 0), (2, i64 long), (1, i64 short)], [(4, .row 3 (2 * long + 1).toNat 1 (.ints .i64 (bandK short long j))), (3, .blk 27 [i64 0, .lit (.slice none 0 0), .lit (.slice none 0 0)]), (2, .blk 27 [i64 t.first, .sl 0 t.vals.length, .sl 1 t.holes.length]), (0, .ro t.vals.length 1 (.ints .i64 t.vals)), (1, .ro t.holes.length 2 (spC t.holes))], 5⟩) (fun j => (j : Int) ≤ 2 * short + 1) (fun j => (2 * short + 1).toNat - j) 0 ⟨?_, sub_intro hm [(0, some 0), (1, some 1), (2, some 2), (3, some 3), (4, some 4)] rfl ?_⟩ ?_
    · omega
    · ((try simp only [AllL, All, cd_p, cp_p, cv_p, InK, and_true, true_and]); all_goals ((repeat' (first | refine And.intro ?_ ?_ | intro _)) <;> first | omega | exact True.intro | assumption | (simp; done) | rfl | (simp_all; done) | (simp_all; omega)))
    · rintro j hj
      have hkl := bandK_len short long j
      (repeat (first | (refine lwp_seq fun K hK => ?_) | (refine thenS_normal ?_; apply_assumption -exfalso -symm) | (refine thenS_exit ?_) | (refine thenS_ret ?_) | (refine inBlockS_normal ?_) | (refine inBlockS_ret ?_) | (refine inBlockS_hit rfl ?_) | (refine inBlockS_miss rfl ?_) | (refine lwp_block ?_) | (refine lwp_skip ?_) | (refine lwp_exit ?_) | (refine lwp_ret ?_) | (refine lwp_label ?_) | (refine lwp_region hC ⟨[], [], []⟩ (told0 _ _) rfl True.intro ?_) | (refine lwp_region hC ⟨[], [], []⟩ (told0 _ _) rfl (by ((try simp only [AllL, All, cd_p, cp_p, cv_p, InK, and_true, true_and]); all_goals ((repeat' (first | refine And.intro ?_ ?_ | intro _)) <;> first | omega | exact True.intro | assumption | (simp; done) | rfl | (simp_all; done) | (simp_all; omega)))) ?_)))
      (refine lwp_cond hC rfl (by first | exact True.intro | ((try simp only [AllL, All, cd_p, cp_p, cv_p, InK, and_true, true_and]); all_goals ((repeat' (first | refine And.intro ?_ ?_ | intro _)) <;> first | omega | exact True.intro | assumption | (simp; done) | rfl | (simp_all; done) | (simp_all; omega)))) (fun hb => ?_) (fun hb => ?_) <;> (try simp only [decide_eq_true_eq, decide_eq_false_iff_not, Bool.not_eq_true', Bool.not_eq_false', ne_eq, Decidable.not_not] at hb))
      · have hj2 : (j : Int) ≤ 2 * short := by omega
        have hat := bandK_at short long j h0 h1 hj2
        have hset := bandK_set short long j h0 h1 hj2
        (repeat (first | (refine lwp_seq fun K hK => ?_) | (refine thenS_normal ?_; apply_assumption -exfalso -symm) | (refine thenS_exit ?_) | (refine thenS_ret ?_) | (refine inBlockS_normal ?_) | (refine inBlockS_ret ?_) | (refine inBlockS_hit rfl ?_) | (refine inBlockS_miss rfl ?_) | (refine lwp_block ?_) | (refine lwp_skip ?_) | (refine lwp_exit ?_) | (refine lwp_ret ?_) | (refine lwp_label ?_) | (refine lwp_region hC ⟨[], [], []⟩ (told0 _ _) rfl True.intro ?_) | (refine lwp_region hC ⟨[], [], []⟩ (told0 _ _) rfl (by ((try simp only [AllL, All, cd_p, cp_p, cv_p, InK, and_true, true_and]); all_goals ((repeat' (first | refine And.intro ?_ ?_ | intro _)) <;> first | omega | exact True.intro | assumption | (simp; done) | rfl | (simp_all; done) | (simp_all; omega)))) ?_)))
        refine thenS_normal ⟨j + 1, ?_, ?_, sub_intro hm [(0, some 0), (1, some 1), (2, some 2), (3, some 3), (4, some 4)] rfl ?_⟩
        · omega
        · omega
        · rw [hset, hat]
          simp only [All, cd_p, cp_p, cv_p]
          (repeat' refine And.intro ?_ ?_) <;> first | omega | trivial | rfl
      · have hj3 : j = (2 * short + 1).toNat := by omega
        have he : bandK short long j = bandW short long := by rw [hj3]; exact bandK_end short long h0
        rw [he]
        clear he hkl
        (repeat (first | (refine lwp_seq fun K hK => ?_) | (refine thenS_normal ?_; apply_assumption -exfalso -symm) | (refine thenS_exit ?_) | (refine thenS_ret ?_) | (refine inBlockS_normal ?_) | (refine inBlockS_ret ?_) | (refine inBlockS_hit rfl ?_) | (refine inBlockS_miss rfl ?_) | (refine lwp_block ?_) | (refine lwp_skip ?_) | (refine lwp_exit ?_) | (refine lwp_ret ?_) | (refine lwp_label ?_) | (refine lwp_region hC ⟨[], [], []⟩ (told0 _ _) rfl True.intro ?_) | (refine lwp_region hC ⟨[], [], []⟩ (told0 _ _) rfl (by ((try simp only [AllL, All, cd_p, cp_p, cv_p, InK, and_true, true_and]); all_goals ((repeat' (first | refine And.intro ?_ ?_ | intro _)) <;> first | omega | exact True.intro | assumption | (simp; done) | rfl | (simp_all; done) | (simp_all; omega)))) ?_)))
        (refine lwp_region hC ⟨[], [], [(1, Values_i t [(0, some 0), (1, some 1)])]⟩ (told1 _ (by rw [hP]; exact (calls_cons (Values_s _ _ (by omega) (by omega)) calls_nil))) rfl ?_ ?_; rotate_left 1)
        · (repeat (first | (refine lwp_seq fun K hK => ?_) | (refine thenS_normal ?_; apply_assumption -exfalso -symm) | (refine thenS_exit ?_) | (refine thenS_ret ?_) | (refine inBlockS_normal ?_) | (refine inBlockS_ret ?_) | (refine inBlockS_hit rfl ?_) | (refine inBlockS_miss rfl ?_) | (refine lwp_block ?_) | (refine lwp_skip ?_) | (refine lwp_exit ?_) | (refine lwp_ret ?_) | (refine lwp_label ?_) | (refine lwp_region hC ⟨[], [], []⟩ (told0 _ _) rfl True.intro ?_) | (refine lwp_region hC ⟨[], [], []⟩ (told0 _ _) rfl (by ((try simp only [AllL, All, cd_p, cp_p, cv_p, InK, and_true, true_and]); all_goals ((repeat' (first | refine And.intro ?_ ?_ | intro _)) <;> first | omega | exact True.intro | assumption | (simp; done) | rfl | (simp_all; done) | (simp_all; omega)))) ?_)))
          have hLl := bandL_len (valuesS t.vals t.holes) (bandW short long) long
          have hbs := bpart_small (ws := bandW short long) hval hwv
          have hLg := bandL_get (valuesS t.vals t.holes) (bandW short long) long
          have hxs := values_small hval
          have hT0 : RBandS t short long = if (bandL (valuesS t.vals t.holes) (bandW short long) long).length = 0 then (⟨0, [], []⟩, 16) else madeS (t.first + long) (bandL (valuesS t.vals t.holes) (bandW short long) long) := rfl
          have HT := Lib.hid hT0
          clear hT0
          generalize hV : valuesS t.vals t.holes = V at *
          generalize hW : bandW short long = W at *
          generalize hL : bandL V W long = L at *
          have HLG := Lib.hid hLg
          have HBS := Lib.hid hbs
          have HXS := Lib.hid hxs
          have HWV := Lib.hid hwv
          clear hLg hbs hxs hwv hval
          have hwn : (2 * long + 1).toNat = W.length := hwl.symm
          rw [hwn]
          clear hwn
          refine lwp_loop (fun i : Nat => ⟨[(12, i64 (long + i)), (11, .sl 6 i), (10, .sl 5 V.length), (8, .sl 4 W.length), (6, .ptr 3 0 0 0), (3, .ptr 2 0 0 0), (2, i64 long), (1, i64 short)], [(6, .row 136 i 2 (vaC (L.take i))), (5, .row 136 V.length 2 (vaC V)), (4, .row 3 W.length 1 (.ints .i64 W)), (3, .blk 27 [i64 0, .lit (.slice none 0 0), .lit (.slice none 0 0)]), (2, .blk 27 [i64 t.first, .sl 0 t.vals.length, .sl 1 t.holes.length]), (0, .ro t.vals.length 1 (.ints .i64 t.vals)), (1, .ro t.holes.length 2 (spC t.holes))], 7⟩) (fun i => i ≤ L.length) (fun i => L.length - i) 0 ⟨?_, sub_intro hm [(0, some 0), (1, some 1), (2, some 2), (3, some 3), (4, some 4), (5, some 5), (6, none)] rfl ?_⟩ ?_
          · exact Nat.zero_le _
          · simp only [All, cd_p, cp_p, cv_p]
            (repeat' refine And.intro ?_ ?_) <;> first | omega | trivial | rfl
          · rintro i hi
            have hi9 : (i : Int) ≤ 4096 := by omega
            (repeat (first | (refine lwp_seq fun K hK => ?_) | (refine thenS_normal ?_; apply_assumption -exfalso -symm) | (refine thenS_exit ?_) | (refine thenS_ret ?_) | (refine inBlockS_normal ?_) | (refine inBlockS_ret ?_) | (refine inBlockS_hit rfl ?_) | (refine inBlockS_miss rfl ?_) | (refine lwp_block ?_) | (refine lwp_skip ?_) | (refine lwp_exit ?_) | (refine lwp_ret ?_) | (refine lwp_label ?_) | (refine lwp_region hC ⟨[], [], []⟩ (told0 _ _) rfl True.intro ?_) | (refine lwp_region hC ⟨[], [], []⟩ (told0 _ _) rfl (by ((try simp only [AllL, All, cd_p, cp_p, cv_p, InK, and_true, true_and]); all_goals ((repeat' (first | refine And.intro ?_ ?_ | intro _)) <;> first | omega | exact True.intro | assumption | (simp; done) | rfl | (simp_all; done) | (simp_all; omega)))) ?_)))
            (refine lwp_cond hC rfl (by first | exact True.intro | ((try simp only [AllL, All, cd_p, cp_p, cv_p, InK, and_true, true_and]); all_goals ((repeat' (first | refine And.intro ?_ ?_ | intro _)) <;> first | omega | exact True.intro | assumption | (simp; done) | rfl | (simp_all; done) | (simp_all; omega)))) (fun hb => ?_) (fun hb => ?_) <;> (try simp only [decide_eq_true_eq, decide_eq_false_iff_not, Bool.not_eq_true', Bool.not_eq_false', ne_eq, Decidable.not_not] at hb))
            · have hi2 : i < L.length := by omega
              (repeat (first | (refine lwp_seq fun K hK => ?_) | (refine thenS_normal ?_; apply_assumption -exfalso -symm) | (refine thenS_exit ?_) | (refine thenS_ret ?_) | (refine inBlockS_normal ?_) | (refine inBlockS_ret ?_) | (refine inBlockS_hit rfl ?_) | (refine inBlockS_miss rfl ?_) | (refine lwp_block ?_) | (refine lwp_skip ?_) | (refine lwp_exit ?_) | (refine lwp_ret ?_) | (refine lwp_label ?_) | (refine lwp_region hC ⟨[], [], []⟩ (told0 _ _) rfl True.intro ?_) | (refine lwp_region hC ⟨[], [], []⟩ (told0 _ _) rfl (by ((try simp only [AllL, All, cd_p, cp_p, cv_p, InK, and_true, true_and]); all_goals ((repeat' (first | refine And.intro ?_ ?_ | intro _)) <;> first | omega | exact True.intro | assumption | (simp; done) | rfl | (simp_all; done) | (simp_all; omega)))) ?_)))
              refine lwp_loop (fun k : Nat => ⟨[(14, i64 k), (13, .ptr 7 0 0 0), (12, i64 (long + i)), (11, .sl 6 i), (10, .sl 5 V.length), (8, .sl 4 W.length), (6, .ptr 3 0 0 0), (3, .ptr 2 0 0 0), (2, i64 long), (1, i64 short)], (7, .blk 136 [i64 (bpart V W i k).1, bl (bpart V W i k).2]) :: [(6, .row 136 i 2 (vaC (L.take i))), (5, .row 136 V.length 2 (vaC V)), (4, .row 3 W.length 1 (.ints .i64 W)), (3, .blk 27 [i64 0, .lit (.slice none 0 0), .lit (.slice none 0 0)]), (2, .blk 27 [i64 t.first, .sl 0 t.vals.length, .sl 1 t.holes.length]), (0, .ro t.vals.length 1 (.ints .i64 t.vals)), (1, .ro t.holes.length 2 (spC t.holes))], 8⟩) (fun k => k ≤ W.length) (fun k => W.length - k) 0 ⟨?_, sub_intro hm [(0, some 0), (1, some 1), (2, some 2), (3, some 3), (4, some 4), (5, some 5), (6, some 6), (7, some 7)] rfl ?_⟩ ?_
              · exact Nat.zero_le _
              · ((try simp only [AllL, All, cd_p, cp_p, cv_p, InK, and_true, true_and]); all_goals ((repeat' (first | refine And.intro ?_ ?_ | intro _)) <;> first | omega | exact True.intro | assumption | (simp; done) | rfl | (simp_all; done) | (simp_all; omega)))
              · rintro k hk
                have hkk : ((k : Int)).toNat = k := Int.toNat_natCast k
                (repeat (first | (refine lwp_seq fun K hK => ?_) | (refine thenS_normal ?_; apply_assumption -exfalso -symm) | (refine thenS_exit ?_) | (refine thenS_ret ?_) | (refine inBlockS_normal ?_) | (refine inBlockS_ret ?_) | (refine inBlockS_hit rfl ?_) | (refine inBlockS_miss rfl ?_) | (refine lwp_block ?_) | (refine lwp_skip ?_) | (refine lwp_exit ?_) | (refine lwp_ret ?_) | (refine lwp_label ?_) | (refine lwp_region hC ⟨[], [], []⟩ (told0 _ _) rfl True.intro ?_) | (refine lwp_region hC ⟨[], [], []⟩ (told0 _ _) rfl (by ((try simp only [AllL, All, cd_p, cp_p, cv_p, InK, and_true, true_and]); all_goals ((repeat' (first | refine And.intro ?_ ?_ | intro _)) <;> first | omega | exact True.intro | assumption | (simp; done) | rfl | (simp_all; done) | (simp_all; omega)))) ?_)))
                (refine lwp_cond hC rfl (by first | exact True.intro | ((try simp only [AllL, All, cd_p, cp_p, cv_p, InK, and_true, true_and]); all_goals ((repeat' (first | refine And.intro ?_ ?_ | intro _)) <;> first | omega | exact True.intro | assumption | (simp; done) | rfl | (simp_all; done) | (simp_all; omega)))) (fun hb => ?_) (fun hb => ?_) <;> (try simp only [decide_eq_true_eq, decide_eq_false_iff_not, Bool.not_eq_true', Bool.not_eq_false', ne_eq, Decidable.not_not] at hb))
                · have hk2 : k < W.length := by omega
                  have hw := HWV.out k
                  have hx := HXS.out (i + k)
                  have hp := mul_small hw.1 hw.2 hx.1 hx.2
                  have hq := HBS.out i k
                  have hin : i + k < V.length := by omega
                  have hqe : (long + (i : Int) - long + (k : Int)).toNat = i + k := by omega
                  have hws : bpart V W i (k + 1) = ((bpart V W i k).1 + W.getD k 0 * (V.getD (i + k) (0, false)).1, (bpart V W i k).2 && (V.getD (i + k) (0, false)).2) := by rw [bpart_succ]; rfl
                  have HWS := Lib.hid hws
                  clear hws
                  (repeat (first | (refine lwp_seq fun K hK => ?_) | (refine thenS_normal ?_; apply_assumption -exfalso -symm) | (refine thenS_exit ?_) | (refine thenS_ret ?_) | (refine inBlockS_normal ?_) | (refine inBlockS_ret ?_) | (refine inBlockS_hit rfl ?_) | (refine inBlockS_miss rfl ?_) | (refine lwp_block ?_) | (refine lwp_skip ?_) | (refine lwp_exit ?_) | (refine lwp_ret ?_) | (refine lwp_label ?_) | (refine lwp_region hC ⟨[], [], []⟩ (told0 _ _) rfl True.intro ?_) | (refine lwp_region hC ⟨[], [], []⟩ (told0 _ _) rfl (by ((try simp only [AllL, All, cd_p, cp_p, cv_p, InK, and_true, true_and]); all_goals ((repeat' (first | refine And.intro ?_ ?_ | intro _)) <;> first | omega | exact True.intro | assumption | (simp; done) | rfl | (simp_all; done) | (simp_all; omega)))) ?_)))
                  (refine lwp_drawn2 hC (by rw [hP]; exact mixed) ⟨[], [], []⟩ (told0 _ _) [0, 1, 0, 0, 12, 28, 0, 0, 0, 384, 0, 1920, 4032, 8128, 16320, 32764, 65535, 131071, 262143] 18 0 rfl ?_ ?_; rotate_left 1)
                  · (repeat (first | (refine lwp_seq fun K hK => ?_) | (refine thenS_normal ?_; apply_assumption -exfalso -symm) | (refine thenS_exit ?_) | (refine thenS_ret ?_) | (refine inBlockS_normal ?_) | (refine inBlockS_ret ?_) | (refine inBlockS_hit rfl ?_) | (refine inBlockS_miss rfl ?_) | (refine lwp_block ?_) | (refine lwp_skip ?_) | (refine lwp_exit ?_) | (refine lwp_ret ?_) | (refine lwp_label ?_) | (refine lwp_region hC ⟨[], [], []⟩ (told0 _ _) rfl True.intro ?_) | (refine lwp_region hC ⟨[], [], []⟩ (told0 _ _) rfl (by ((try simp only [AllL, All, cd_p, cp_p, cv_p, InK, and_true, true_and]); all_goals ((repeat' (first | refine And.intro ?_ ?_ | intro _)) <;> first | omega | exact True.intro | assumption | (simp; done) | rfl | (simp_all; done) | (simp_all; omega)))) ?_)))
                    refine thenS_normal ⟨k + 1, ?_, ?_, sub_intro hm [(0, some 0), (1, some 1), (2, some 2), (3, some 3), (4, some 4), (5, some 5), (6, some 6), (7, some 7)] rfl ?_⟩
                    · omega
                    · omega
                    · rw [HWS.out, hkk, hqe, bif_and]
                      simp only [All, cd_p, cp_p, cv_p]
                      (repeat' refine And.intro ?_ ?_) <;> first | omega | trivial | rfl
                  · rw [hkk, hqe]
                    simp only [AllL, All, cd_p, cp_p, cv_p, InK]
                    (repeat' refine And.intro ?_ ?_) <;> first | omega | trivial | rfl
                · have hk3 : k = W.length := by omega
                  subst hk3
                  (repeat (first | (refine lwp_seq fun K hK => ?_) | (refine thenS_normal ?_; apply_assumption -exfalso -symm) | (refine thenS_exit ?_) | (refine thenS_ret ?_) | (refine inBlockS_normal ?_) | (refine inBlockS_ret ?_) | (refine inBlockS_hit rfl ?_) | (refine inBlockS_miss rfl ?_) | (refine lwp_block ?_) | (refine lwp_skip ?_) | (refine lwp_exit ?_) | (refine lwp_ret ?_) | (refine lwp_label ?_) | (refine lwp_region hC ⟨[], [], []⟩ (told0 _ _) rfl True.intro ?_) | (refine lwp_region hC ⟨[], [], []⟩ (told0 _ _) rfl (by ((try simp only [AllL, All, cd_p, cp_p, cv_p, InK, and_true, true_and]); all_goals ((repeat' (first | refine And.intro ?_ ?_ | intro _)) <;> first | omega | exact True.intro | assumption | (simp; done) | rfl | (simp_all; done) | (simp_all; omega)))) ?_)))
                  refine thenS_normal ⟨i + 1, ?_, ?_, sub_intro hm [(0, some 0), (1, some 1), (2, some 2), (3, some 3), (4, some 4), (5, some 5), (6, some 9)] rfl ?_⟩
                  · omega
                  · omega
                  · have e := vaC_snoc (L.take i) (L.getD i (0, false))
                    rw [← take_snoc _ _ _ hi2] at e
                    have e3 : L.getD i (0, false) = bpart V W i W.length := HLG.out i hi2
                    rw [e3] at e
                    have e2 : (vaC (L.take (i + 1))).cells = (catC (vaC (L.take i)) (Cont.exp [i64 (bpart V W i W.length).1, bl (bpart V W i W.length).2])).cells := by rw [catC_cells, e]; rfl
                    clear e e3
                    simp only [All, cd_p, cp_p, cv_p]
                    (repeat' refine And.intro ?_ ?_) <;> first | exact e2 | omega | trivial | rfl
            · have hi3 : i = L.length := by omega
              subst hi3
              rw [List.take_length]
              (repeat (first | (refine lwp_seq fun K hK => ?_) | (refine thenS_normal ?_; apply_assumption -exfalso -symm) | (refine thenS_exit ?_) | (refine thenS_ret ?_) | (refine inBlockS_normal ?_) | (refine inBlockS_ret ?_) | (refine inBlockS_hit rfl ?_) | (refine inBlockS_miss rfl ?_) | (refine lwp_block ?_) | (refine lwp_skip ?_) | (refine lwp_exit ?_) | (refine lwp_ret ?_) | (refine lwp_label ?_) | (refine lwp_region hC ⟨[], [], []⟩ (told0 _ _) rfl True.intro ?_) | (refine lwp_region hC ⟨[], [], []⟩ (told0 _ _) rfl (by ((try simp only [AllL, All, cd_p, cp_p, cv_p, InK, and_true, true_and]); all_goals ((repeat' (first | refine And.intro ?_ ?_ | intro _)) <;> first | omega | exact True.intro | assumption | (simp; done) | rfl | (simp_all; done) | (simp_all; omega)))) ?_)))
              (refine lwp_cond hC rfl (by first | exact True.intro | ((try simp only [AllL, All, cd_p, cp_p, cv_p, InK, and_true, true_and]); all_goals ((repeat' (first | refine And.intro ?_ ?_ | intro _)) <;> first | omega | exact True.intro | assumption | (simp; done) | rfl | (simp_all; done) | (simp_all; omega)))) (fun hb => ?_) (fun hb => ?_) <;> (try simp only [decide_eq_true_eq, decide_eq_false_iff_not, Bool.not_eq_true', Bool.not_eq_false', ne_eq, Decidable.not_not] at hb))
              · have hT : RBandS t short long = (⟨0, [], []⟩, 16) := by rw [HT.out, if_pos (by omega)]
                (repeat (first | (refine lwp_seq fun K hK => ?_) | (refine thenS_normal ?_; apply_assumption -exfalso -symm) | (refine thenS_exit ?_) | (refine thenS_ret ?_) | (refine inBlockS_normal ?_) | (refine inBlockS_ret ?_) | (refine inBlockS_hit rfl ?_) | (refine inBlockS_miss rfl ?_) | (refine lwp_block ?_) | (refine lwp_skip ?_) | (refine lwp_exit ?_) | (refine lwp_ret ?_) | (refine lwp_label ?_) | (refine lwp_region hC ⟨[], [], []⟩ (told0 _ _) rfl True.intro ?_) | (refine lwp_region hC ⟨[], [], []⟩ (told0 _ _) rfl (by ((try simp only [AllL, All, cd_p, cp_p, cv_p, InK, and_true, true_and]); all_goals ((repeat' (first | refine And.intro ?_ ?_ | intro _)) <;> first | omega | exact True.intro | assumption | (simp; done) | rfl | (simp_all; done) | (simp_all; omega)))) ?_)))
                rw [hT]
                (refine end_intro (by first | exact .inr rfl | exact .inl rfl) [(2, none), (3, none)] rfl ?_)
                ((try simp only [AllL, All, cd_p, cp_p, cv_p, InK, and_true, true_and]); all_goals ((repeat' (first | refine And.intro ?_ ?_ | intro _)) <;> first | omega | exact True.intro | assumption | (simp; done) | rfl | (simp_all; done) | (simp_all; omega)))
              · have hT : RBandS t short long = madeS (t.first + long) L := by rw [HT.out, if_neg (by omega)]
                (repeat (first | (refine lwp_seq fun K hK => ?_) | (refine thenS_normal ?_; apply_assumption -exfalso -symm) | (refine thenS_exit ?_) | (refine thenS_ret ?_) | (refine inBlockS_normal ?_) | (refine inBlockS_ret ?_) | (refine inBlockS_hit rfl ?_) | (refine inBlockS_miss rfl ?_) | (refine lwp_block ?_) | (refine lwp_skip ?_) | (refine lwp_exit ?_) | (refine lwp_ret ?_) | (refine lwp_label ?_) | (refine lwp_region hC ⟨[], [], []⟩ (told0 _ _) rfl True.intro ?_) | (refine lwp_region hC ⟨[], [], []⟩ (told0 _ _) rfl (by ((try simp only [AllL, All, cd_p, cp_p, cv_p, InK, and_true, true_and]); all_goals ((repeat' (first | refine And.intro ?_ ?_ | intro _)) <;> first | omega | exact True.intro | assumption | (simp; done) | rfl | (simp_all; done) | (simp_all; omega)))) ?_)))
                (refine lwp_region hC ⟨[], [], [(5, Made_i (t.first + long) L [(0, some 6)])]⟩ (told1 _ (by rw [hP]; exact (calls_cons (Made_s _ _ _ (by omega)) calls_nil))) rfl ?_ ?_; rotate_left 1)
                · (repeat (first | (refine lwp_seq fun K hK => ?_) | (refine thenS_normal ?_; apply_assumption -exfalso -symm) | (refine thenS_exit ?_) | (refine thenS_ret ?_) | (refine inBlockS_normal ?_) | (refine inBlockS_ret ?_) | (refine inBlockS_hit rfl ?_) | (refine inBlockS_miss rfl ?_) | (refine lwp_block ?_) | (refine lwp_skip ?_) | (refine lwp_exit ?_) | (refine lwp_ret ?_) | (refine lwp_label ?_) | (refine lwp_region hC ⟨[], [], []⟩ (told0 _ _) rfl True.intro ?_) | (refine lwp_region hC ⟨[], [], []⟩ (told0 _ _) rfl (by ((try simp only [AllL, All, cd_p, cp_p, cv_p, InK, and_true, true_and]); all_goals ((repeat' (first | refine And.intro ?_ ?_ | intro _)) <;> first | omega | exact True.intro | assumption | (simp; done) | rfl | (simp_all; done) | (simp_all; omega)))) ?_)))
                  rw [hT]
                  generalize madeS (t.first + long) L = T at *
                  (refine end_intro (by first | exact .inr rfl | exact .inl rfl) [(2, some 7), (3, some 8)] rfl ?_)
                  ((try simp only [AllL, All, cd_p, cp_p, cv_p, InK, and_true, true_and]); all_goals ((repeat' (first | refine And.intro ?_ ?_ | intro _)) <;> first | omega | exact True.intro | assumption | (simp; done) | rfl | (simp_all; done) | (simp_all; omega)))
                · clear hT
                  ((try simp only [AllL, All, cd_p, cp_p, cv_p, InK, and_true, true_and]); all_goals ((repeat' (first | refine And.intro ?_ ?_ | intro _)) <;> first | omega | exact True.intro | assumption | (simp; done) | rfl | (simp_all; done) | (simp_all; omega)))
        · ((try simp only [AllL, All, cd_p, cp_p, cv_p, InK, and_true, true_and]); all_goals ((repeat' (first | refine And.intro ?_ ?_ | intro _)) <;> first | omega | exact True.intro | assumption | (simp; done) | rfl | (simp_all; done) | (simp_all; omega)))
  · ((try simp only [AllL, All, cd_p, cp_p, cv_p, InK, and_true, true_and]); all_goals ((repeat' (first | refine And.intro ?_ ?_ | intro _)) <;> first | omega | exact True.intro | assumption | (simp; done) | rfl | (simp_all; done) | (simp_all; omega)))

end Go.Proofs.YtbpffadffbgloaaDoor
