/- Contracts: Plus, Times, Panel of the reference. -/
import Derived.Test.YtbpffadffbgloaaGreatDoorYc
import Derived.Test.YtbpffadffbgloaaGreatDoorWb
import Derived.Test.YtbpffadffbgloaaGreatDoorRb
set_option linter.unusedVariables false
set_option linter.unusedSimpArgs false
namespace Go.Proofs.YtbpffadffbgloaaGreatDoor
open Go.RowKit Go.Sym

def Plus_i (a b c d : Int) : Inst := { f := 71, hin := [], args := [.agg [i64 a, i64 b], .agg [i64 c, i64 d]], hout := [], ret := .agg [i64 (a + c), i64 (b + d)], σ := [] }
theorem Plus_s (a b c d : Int) (h1 : -4611686018427387904 ≤ a + c ∧ a + c ≤ 4611686018427387904) (h2 : -4611686018427387904 ≤ b + d ∧ b + d ≤ 4611686018427387904) : (Plus_i a b c d).ok Tryz.prog := by
  unfold Plus_i Inst.ok; dsimp only; refine spec_of_body (tys := tys) 0 Tryz.func71 (by kernel_rfl) rfl tys_ok rfl (Nat.le_of_ble_eq_true rfl) (fun _ _ h => (by cases h)) fun F hP hm hC => ?_; conv => whnf
  repeat first | refine lwp_seq fun K hK => ?_ | (refine thenS_normal ?_; apply_assumption -exfalso -symm) | refine thenS_exit ?_ | refine thenS_ret ?_ | refine inBlockS_normal ?_ | refine inBlockS_ret ?_ | refine inBlockS_hit rfl ?_ | refine inBlockS_miss rfl ?_ | refine lwp_block ?_ | refine lwp_skip ?_ | refine lwp_exit ?_ | refine lwp_ret ?_ | refine lwp_label ?_ | refine lwp_region hC ⟨[], [], []⟩ (told0 _ _) rfl True.intro ?_ | refine lwp_region hC ⟨[], [], []⟩ (told0 _ _) rfl (by ((try simp only [AllL, All, cd_p, cp_p, cv_p, InK, and_true, true_and]); all_goals ((repeat' (first | refine And.intro ?_ ?_ | intro _)) <;> first | omega | exact True.intro | assumption | (simp; done) | rfl | (simp_all; done) | (simp_all; omega)))) ?_
  (refine end_intro (by first | exact .inr rfl | exact .inl rfl) [] rfl ?_)
  ((try simp only [AllL, All, cd_p, cp_p, cv_p, InK, and_true, true_and]); all_goals ((repeat' (first | refine And.intro ?_ ?_ | intro _)) <;> first | omega | exact True.intro | assumption | (simp; done) | rfl | (simp_all; done) | (simp_all; omega)))
def Times_i (a b c d : Int) : Inst := { f := 72, hin := [], args := [.agg [i64 a, i64 b], .agg [i64 c, i64 d]], hout := [], ret := .agg [i64 (a * c - b * d), i64 (a * d + b * c)], σ := [] }
theorem Times_s (x c d : Int) (h0 : -1073741824 ≤ x ∧ x ≤ 1073741824) (hc : c = 1 ∨ c = 0 ∨ c = -1) (hd : d = 1 ∨ d = 0 ∨ d = -1) : (Times_i x 0 c d).ok Tryz.prog := by
  have q1 := mulB h0 hc
  have q2 := mulB h0 hd
  have z1 : 0 * d = 0 := Int.zero_mul d
  have z2 : 0 * c = 0 := Int.zero_mul c
  unfold Times_i Inst.ok; dsimp only; refine spec_of_body (tys := tys) 0 Tryz.func72 (by kernel_rfl) rfl tys_ok rfl (Nat.le_of_ble_eq_true rfl) (fun _ _ h => (by cases h)) fun F hP hm hC => ?_; conv => whnf
  repeat first | refine lwp_seq fun K hK => ?_ | (refine thenS_normal ?_; apply_assumption -exfalso -symm) | refine thenS_exit ?_ | refine thenS_ret ?_ | refine inBlockS_normal ?_ | refine inBlockS_ret ?_ | refine inBlockS_hit rfl ?_ | refine inBlockS_miss rfl ?_ | refine lwp_block ?_ | refine lwp_skip ?_ | refine lwp_exit ?_ | refine lwp_ret ?_ | refine lwp_label ?_ | refine lwp_region hC ⟨[], [], []⟩ (told0 _ _) rfl True.intro ?_ | refine lwp_region hC ⟨[], [], []⟩ (told0 _ _) rfl (by ((try simp only [AllL, All, cd_p, cp_p, cv_p, InK, and_true, true_and]); all_goals ((repeat' (first | refine And.intro ?_ ?_ | intro _)) <;> first | omega | exact True.intro | assumption | (simp; done) | rfl | (simp_all; done) | (simp_all; omega)))) ?_
  (refine end_intro (by first | exact .inr rfl | exact .inl rfl) [] rfl ?_)
  simp only [All, cd_p, cp_p, cv_p]
  (repeat' refine And.intro ?_ ?_) <;> first | trivial | rfl | omega

theorem negI_three (r : Int) : -powI r = 1 ∨ -powI r = 0 ∨ -powI r = -1 := by
  rcases powI_three r with h | h | h <;> rw [h] <;> simp
/-- A step of a transform, as the reference takes it. -/
theorem fR_step (l : List Int) (k n : Nat) : fR l k n + (l.getD n 0 * powR (((k : Int) * (n : Int)) % 4) - 0 * -powI (((k : Int) * (n : Int)) % 4)) = fR l k (n + 1) := by
  rw [fR, Int.neg_mul, powR_neg, Int.zero_mul, Int.sub_zero]
theorem fI_step (l : List Int) (k n : Nat) : fI l k n + (l.getD n 0 * -powI (((k : Int) * (n : Int)) % 4) + 0 * powR (((k : Int) * (n : Int)) % 4)) = fI l k (n + 1) := by
  rw [fI, Int.neg_mul, powI_neg, Int.zero_mul, Int.add_zero]
theorem panL_get (t : Tr) (p : Int) (n : Nat) (h : n < 4) : (panL t p).getD n 0 = t.vals.getD (p - t.first + (n : Int)).toNat 0 := by
  obtain rfl | rfl | rfl | rfl : n = 0 ∨ n = 1 ∨ n = 2 ∨ n = 3 := by omega
  · show vP t p = _; unfold vP; congr 2; simp
  · show vP t (p + 1) = _; unfold vP; congr 2; omega
  · show vP t (p + 2) = _; unfold vP; congr 2; omega
  · show vP t (p + 3) = _; unfold vP; congr 2; omega
theorem panL_bound {t : Tr} (h : traceS t = 0) (p : Int) (i : Nat) : -1073741824 ≤ (panL t p).getD i 0 ∧ (panL t p).getD i 0 ≤ 1073741824 :=
  getD4 (vP_bound h _) (vP_bound h _) (vP_bound h _) (vP_bound h _) i

def gR (t : Tr) (p : Int) (k : Nat) : Int := if panE t p = 0 then fR (panL t p) k 4 else 0
def gI (t : Tr) (p : Int) (k : Nat) : Int := if panE t p = 0 then fI (panL t p) k 4 else 0
/-- The reference's panel under way: places below k are done, at k so many steps. -/
def gwR (l : List Int) (k n j : Nat) : AV := i64 (if j < k then fR l j 4 else if j = k then fR l j n else 0)
def gwI (l : List Int) (k n j : Nat) : AV := i64 (if j < k then fI l j 4 else if j = k then fI l j n else 0)
def gwL (l : List Int) (k n : Nat) : List AV := [gwR l k n 0, gwI l k n 0, gwR l k n 1, gwI l k n 1, gwR l k n 2, gwI l k n 2, gwR l k n 3, gwI l k n 3]
def gz : List AV := [i64 0, i64 0, i64 0, i64 0, i64 0, i64 0, i64 0, i64 0]
def RPanel_i (t : Tr) (p : Int) (σ : Ren) : Inst := { f := 19, hin := trIn t, args := [trA 0 1 t, i64 p], hout := [], ret := .tup [gsL (gR t p 0) (gI t p 0) (gR t p 1) (gI t p 1) (gR t p 2) (gI t p 2) (gR t p 3) (gI t p 3), i64 (panE t p)], σ := σ }
theorem panE_range {t : Tr} {p : Int} (ht : traceS t = 0) (h : ¬ (t.first ≤ p ∧ p + 4 ≤ t.first + t.vals.length)) : panE t p = 10 := by
  have hok := traceS_ok ht
  have f0 := hok.f0
  have f1 := hok.f1
  have t2 := hok.len
  have hB : pnB t p = true := by
    unfold pnB wEnd
    rw [wrap64_id (by omega) (by omega), wrap_id (by omega) (by omega), Bool.or_eq_true, decide_eq_true_eq, decide_eq_true_eq]
    omega
  unfold panE pnH
  rw [hB, ht]; rfl
theorem panE_in {t : Tr} {p : Int} (ht : traceS t = 0) (h : t.first ≤ p ∧ p + 4 ≤ t.first + t.vals.length) : panE t p = if pnK t p = true then 0 else 7 := by
  have hok := traceS_ok ht
  have f0 := hok.f0
  have f1 := hok.f1
  have t2 := hok.len
  have hB : pnB t p = false := by
    unfold pnB wEnd
    rw [wrap64_id (by omega) (by omega), wrap_id (by omega) (by omega), Bool.or_eq_false_iff, decide_eq_false_iff_not, decide_eq_false_iff_not]
    omega
  unfold panE pnH
  rw [hB, ht]; rfl
theorem kP_known {t : Tr} {p : Int} {n : Nat} (h0 : t.first ≤ p) (h1 : p + n < t.first + t.vals.length) : kP t (p + n) = knownB t.holes (p - t.first + n) := by
  unfold kP
  rw [knS_at t.holes (by omega)]
  congr 1; omega
set_option maxRecDepth 20000 in
set_option maxHeartbeats 8000000 in
theorem RPanel_s (t : Tr) (p : Int) (σ : Ren) (ht : traceS t = 0) (t3 : t.holes.length ≤ 1000000) : (RPanel_i t p σ).ok Tryz.prog := by
  have hok := traceS_ok ht
  have t2 := hok.len
  have f0 := hok.f0
  have f1 := hok.f1
  unfold RPanel_i Inst.ok; dsimp only; refine spec_of_body (tys := tys) 2 Tryz.func19 (by kernel_rfl) rfl tys_ok rfl (Nat.le_of_ble_eq_true rfl) (fun _ _ h => (by cases h)) fun F hP hm hC => ?_; conv => whnf
  repeat first | refine lwp_seq fun K hK => ?_ | (refine thenS_normal ?_; apply_assumption -exfalso -symm) | refine thenS_exit ?_ | refine thenS_ret ?_ | refine inBlockS_normal ?_ | refine inBlockS_ret ?_ | refine inBlockS_hit rfl ?_ | refine inBlockS_miss rfl ?_ | refine lwp_block ?_ | refine lwp_skip ?_ | refine lwp_exit ?_ | refine lwp_ret ?_ | refine lwp_label ?_ | refine lwp_region hC ⟨[], [], []⟩ (told0 _ _) rfl True.intro ?_
  (refine lwp_region hC ⟨[], [(3, custWSub)], []⟩ ⟨(fun p hp => by rcases List.mem_cons.1 hp with rfl | hp; rw [hP]; exact custWSub_ok; cases hp), (fun _ h => (by cases h))⟩ rfl ?_ ?_; rotate_left 1)
  · repeat first | refine lwp_seq fun K hK => ?_ | (refine thenS_normal ?_; apply_assumption -exfalso -symm) | refine thenS_exit ?_ | refine thenS_ret ?_ | refine inBlockS_normal ?_ | refine inBlockS_ret ?_ | refine inBlockS_hit rfl ?_ | refine inBlockS_miss rfl ?_ | refine lwp_block ?_ | refine lwp_skip ?_ | refine lwp_exit ?_ | refine lwp_ret ?_ | refine lwp_label ?_ | refine lwp_region hC ⟨[], [], []⟩ (told0 _ _) rfl True.intro ?_ | refine lwp_region hC ⟨[], [], []⟩ (told0 _ _) rfl (by ((try simp only [AllL, All, cd_p, cp_p, cv_p, InK, and_true, true_and]); all_goals ((repeat' (first | refine And.intro ?_ ?_ | intro _)) <;> first | omega | exact True.intro | assumption | (simp; done) | rfl | (simp_all; done) | (simp_all; omega)))) ?_
    by_cases hin : t.first ≤ p ∧ p + 4 ≤ t.first + t.vals.length
    · have hw : IntKind.i64.wrap (p - t.first) = p - t.first := wrap_id (by omega) (by omega)
      have hE := panE_in ht hin
      obtain ⟨i0, i1⟩ := hin
      (refine lwp_cond hC rfl (by first | exact True.intro | ((try simp only [AllL, All, cd_p, cp_p, cv_p, InK, and_true, true_and]); all_goals ((repeat' (first | refine And.intro ?_ ?_ | intro _)) <;> first | omega | exact True.intro | assumption | (simp; done) | rfl | (simp_all; done) | (simp_all; omega)))) (fun hb => ?_) (fun hb => ?_) <;> (try simp only [decide_eq_true_eq, decide_eq_false_iff_not, Bool.not_eq_true', Bool.not_eq_false', ne_eq, Decidable.not_not] at hb))
      · simp at hb
        omega
      · clear hb
        rw [hw]
        clear hw
        repeat first | refine lwp_seq fun K hK => ?_ | (refine thenS_normal ?_; apply_assumption -exfalso -symm) | refine thenS_exit ?_ | refine thenS_ret ?_ | refine inBlockS_normal ?_ | refine inBlockS_ret ?_ | refine inBlockS_hit rfl ?_ | refine inBlockS_miss rfl ?_ | refine lwp_block ?_ | refine lwp_skip ?_ | refine lwp_exit ?_ | refine lwp_ret ?_ | refine lwp_label ?_ | refine lwp_region hC ⟨[], [], []⟩ (told0 _ _) rfl True.intro ?_
        refine lwp_loop (fun k : Nat => ⟨[(8, i64 k), (7, i64 (p - t.first)), (6, .ptr 4 0 0 0), (4, .ptr 3 0 0 0), (2, .ptr 2 0 0 0)], [(4, .blk 45 gz), (3, .blk 45 gz), (2, .blk 25 [i64 t.first, .sl 0 t.vals.length, .sl 1 t.holes.length]), (0, .ro t.vals.length 1 (.ints .i64 t.vals)), (1, .ro t.holes.length 2 (spC t.holes))], 5⟩) (fun k => k ≤ 4 ∧ ∀ j : Nat, j < k → kP t (p + (j : Int)) = true) (fun k => 4 - k) 0 ⟨?_, sub_intro hm [(0, some 0), (1, some 1), (2, some 2), (3, some 3), (4, some 4)] rfl ?_⟩ ?_
        · exact ⟨by omega, fun j hj => absurd hj (Nat.not_lt_zero _)⟩
        · ((try simp only [AllL, All, cd_p, cp_p, cv_p, InK, and_true, true_and]); all_goals ((repeat' (first | refine And.intro ?_ ?_ | intro _)) <;> first | omega | exact True.intro | assumption | (simp; done) | rfl | (simp_all; done) | (simp_all; omega)))
        rintro k ⟨hk, hf⟩
        have HF := Lib.hid hf
        clear hf
        repeat first | refine lwp_seq fun K hK => ?_ | (refine thenS_normal ?_; apply_assumption -exfalso -symm) | refine thenS_exit ?_ | refine thenS_ret ?_ | refine inBlockS_normal ?_ | refine inBlockS_ret ?_ | refine inBlockS_hit rfl ?_ | refine inBlockS_miss rfl ?_ | refine lwp_block ?_ | refine lwp_skip ?_ | refine lwp_exit ?_ | refine lwp_ret ?_ | refine lwp_label ?_ | refine lwp_region hC ⟨[], [], []⟩ (told0 _ _) rfl True.intro ?_
        (refine lwp_cond hC rfl (by first | exact True.intro | ((try simp only [AllL, All, cd_p, cp_p, cv_p, InK, and_true, true_and]); all_goals ((repeat' (first | refine And.intro ?_ ?_ | intro _)) <;> first | omega | exact True.intro | assumption | (simp; done) | rfl | (simp_all; done) | (simp_all; omega)))) (fun hb => ?_) (fun hb => ?_) <;> (try simp only [decide_eq_true_eq, decide_eq_false_iff_not, Bool.not_eq_true', Bool.not_eq_false', ne_eq, Decidable.not_not] at hb))
        · have hk4 : k < 4 := by omega
          clear hb
          have hkk := kP_known (t := t) (p := p) (n := k) i0 (by omega)
          repeat first | refine lwp_seq fun K hK => ?_ | (refine thenS_normal ?_; apply_assumption -exfalso -symm) | refine thenS_exit ?_ | refine thenS_ret ?_ | refine inBlockS_normal ?_ | refine inBlockS_ret ?_ | refine inBlockS_hit rfl ?_ | refine inBlockS_miss rfl ?_ | refine lwp_block ?_ | refine lwp_skip ?_ | refine lwp_exit ?_ | refine lwp_ret ?_ | refine lwp_label ?_ | refine lwp_region hC ⟨[], [], []⟩ (told0 _ _) rfl True.intro ?_
          (refine lwp_region hC ⟨[], [], [(4, Known_i t (p - t.first + (k : Int)) [(0, some 0), (1, some 1)])]⟩ (told1 _ (by rw [hP]; exact (calls_cons (Known_s _ _ _ (by omega)) calls_nil))) rfl ?_ ?_; rotate_left 1)
          · rw [← hkk]
            repeat first | refine lwp_seq fun K hK => ?_ | (refine thenS_normal ?_; apply_assumption -exfalso -symm) | refine thenS_exit ?_ | refine thenS_ret ?_ | refine inBlockS_normal ?_ | refine inBlockS_ret ?_ | refine inBlockS_hit rfl ?_ | refine inBlockS_miss rfl ?_ | refine lwp_block ?_ | refine lwp_skip ?_ | refine lwp_exit ?_ | refine lwp_ret ?_ | refine lwp_label ?_ | refine lwp_region hC ⟨[], [], []⟩ (told0 _ _) rfl True.intro ?_
            cases hkn : kP t (p + (k : Int)) with
            | true =>
              (refine lwp_cond hC rfl (by first | exact True.intro | ((try simp only [AllL, All, cd_p, cp_p, cv_p, InK, and_true, true_and]); all_goals ((repeat' (first | refine And.intro ?_ ?_ | intro _)) <;> first | omega | exact True.intro | assumption | (simp; done) | rfl | (simp_all; done) | (simp_all; omega)))) (fun hb => ?_) (fun hb => ?_) <;> (try simp only [decide_eq_true_eq, decide_eq_false_iff_not, Bool.not_eq_true', Bool.not_eq_false', ne_eq, Decidable.not_not] at hb))
              · exact absurd hb (by simp)
              · clear hb
                have hall : ∀ j : Nat, j < k + 1 → kP t (p + (j : Int)) = true := by
                  intro j hj
                  by_cases e : j = k
                  · subst e; exact hkn
                  · exact HF.out j (by omega)
                have HA := Lib.hid hall
                clear hall hkn hkk
                repeat first | refine lwp_seq fun K hK => ?_ | (refine thenS_normal ?_; apply_assumption -exfalso -symm) | refine thenS_exit ?_ | refine thenS_ret ?_ | refine inBlockS_normal ?_ | refine inBlockS_ret ?_ | refine inBlockS_hit rfl ?_ | refine inBlockS_miss rfl ?_ | refine lwp_block ?_ | refine lwp_skip ?_ | refine lwp_exit ?_ | refine lwp_ret ?_ | refine lwp_label ?_ | refine lwp_region hC ⟨[], [], []⟩ (told0 _ _) rfl True.intro ?_ | refine lwp_region hC ⟨[], [], []⟩ (told0 _ _) rfl (by ((try simp only [AllL, All, cd_p, cp_p, cv_p, InK, and_true, true_and]); all_goals ((repeat' (first | refine And.intro ?_ ?_ | intro _)) <;> first | omega | exact True.intro | assumption | (simp; done) | rfl | (simp_all; done) | (simp_all; omega)))) ?_
                refine thenS_normal ⟨k + 1, ?_, ?_, sub_intro hm [(0, some 0), (1, some 1), (2, some 2), (3, some 3), (4, some 4)] rfl ?_⟩
                · exact ⟨by omega, HA.out⟩
                · omega
                · ((try simp only [AllL, All, cd_p, cp_p, cv_p, InK, and_true, true_and]); all_goals ((repeat' (first | refine And.intro ?_ ?_ | intro _)) <;> first | omega | exact True.intro | assumption | (simp; done) | rfl | (simp_all; done) | (simp_all; omega)))
            | false =>
              have hK : pnK t p = false := by
                unfold pnK
                obtain rfl | rfl | rfl | rfl : k = 0 ∨ k = 1 ∨ k = 2 ∨ k = 3 := by omega
                · have : kP t p = false := by rw [← Int.add_zero p]; exact hkn
                  rw [this]; rfl
                · have : kP t (p + 1) = false := hkn
                  rw [this]; simp
                · have : kP t (p + 2) = false := hkn
                  rw [this]; simp
                · have : kP t (p + 3) = false := hkn
                  rw [this]; simp
              rw [hK] at hE
              have hE : panE t p = 7 := hE
              (refine lwp_cond hC rfl (by first | exact True.intro | ((try simp only [AllL, All, cd_p, cp_p, cv_p, InK, and_true, true_and]); all_goals ((repeat' (first | refine And.intro ?_ ?_ | intro _)) <;> first | omega | exact True.intro | assumption | (simp; done) | rfl | (simp_all; done) | (simp_all; omega)))) (fun hb => ?_) (fun hb => ?_) <;> (try simp only [decide_eq_true_eq, decide_eq_false_iff_not, Bool.not_eq_true', Bool.not_eq_false', ne_eq, Decidable.not_not] at hb))
              · repeat first | refine lwp_seq fun K hK => ?_ | (refine thenS_normal ?_; apply_assumption -exfalso -symm) | refine thenS_exit ?_ | refine thenS_ret ?_ | refine inBlockS_normal ?_ | refine inBlockS_ret ?_ | refine inBlockS_hit rfl ?_ | refine inBlockS_miss rfl ?_ | refine lwp_block ?_ | refine lwp_skip ?_ | refine lwp_exit ?_ | refine lwp_ret ?_ | refine lwp_label ?_ | refine lwp_region hC ⟨[], [], []⟩ (told0 _ _) rfl True.intro ?_
                unfold gR gI
                rw [hE]
                (refine end_intro (by first | exact .inr rfl | exact .inl rfl) [] rfl ?_)
                ((try simp only [AllL, All, cd_p, cp_p, cv_p, InK, and_true, true_and]); all_goals ((repeat' (first | refine And.intro ?_ ?_ | intro _)) <;> first | omega | exact True.intro | assumption | (simp; done) | rfl | (simp_all; done) | (simp_all; omega)))
              · exact absurd hb (by simp)
          · ((try simp only [AllL, All, cd_p, cp_p, cv_p, InK, and_true, true_and]); all_goals ((repeat' (first | refine And.intro ?_ ?_ | intro _)) <;> first | omega | exact True.intro | assumption | (simp; done) | rfl | (simp_all; done) | (simp_all; omega)))
        · obtain rfl : k = 4 := by omega
          have hK : pnK t p = true := by
            have k0 := HF.out 0 (by omega)
            have k1 := HF.out 1 (by omega)
            have k2 := HF.out 2 (by omega)
            have k3 := HF.out 3 (by omega)
            have k0' : kP t p = true := by rw [← Int.add_zero p]; exact k0
            have k1' : kP t (p + 1) = true := k1
            have k2' : kP t (p + 2) = true := k2
            have k3' : kP t (p + 3) = true := k3
            unfold pnK
            rw [k0', k1', k2', k3']; rfl
          rw [if_pos hK] at hE
          clear hb HF hK
          have HG := Lib.hid (panL_get t p)
          have HB := Lib.hid (panL_bound ht p)
          have HR := Lib.hid (fR_bound (panL_bound ht p))
          have HI := Lib.hid (fI_bound (panL_bound ht p))
          generalize hL : panL t p = L at *
          repeat first | refine lwp_seq fun K hK => ?_ | (refine thenS_normal ?_; apply_assumption -exfalso -symm) | refine thenS_exit ?_ | refine thenS_ret ?_ | refine inBlockS_normal ?_ | refine inBlockS_ret ?_ | refine inBlockS_hit rfl ?_ | refine inBlockS_miss rfl ?_ | refine lwp_block ?_ | refine lwp_skip ?_ | refine lwp_exit ?_ | refine lwp_ret ?_ | refine lwp_label ?_ | refine lwp_region hC ⟨[], [], []⟩ (told0 _ _) rfl True.intro ?_
          refine lwp_loop (fun k : Nat => ⟨[(9, i64 k), (7, i64 (p - t.first)), (6, .ptr 4 0 0 0), (4, .ptr 3 0 0 0), (2, .ptr 2 0 0 0)], [(4, .blk 45 (gwL L k 0)), (3, .blk 45 gz), (2, .blk 25 [i64 t.first, .sl 0 t.vals.length, .sl 1 t.holes.length]), (0, .ro t.vals.length 1 (.ints .i64 t.vals)), (1, .ro t.holes.length 2 (spC t.holes))], 5⟩) (fun k => k ≤ 4) (fun k => 4 - k) 0 ⟨?_, sub_intro hm [(0, some 0), (1, some 1), (2, some 2), (3, some 3), (4, some 4)] rfl ?_⟩ ?_
          · omega
          · ((try simp only [AllL, All, cd_p, cp_p, cv_p, InK, and_true, true_and]); all_goals ((repeat' (first | refine And.intro ?_ ?_ | intro _)) <;> first | omega | exact True.intro | assumption | (simp; done) | rfl | (simp_all; done) | (simp_all; omega)))
          rintro k hk
          obtain rfl | rfl | rfl | rfl | rfl : k = 0 ∨ k = 1 ∨ k = 2 ∨ k = 3 ∨ k = 4 := by omega
          · repeat first | refine lwp_seq fun K hK => ?_ | (refine thenS_normal ?_; apply_assumption -exfalso -symm) | refine thenS_exit ?_ | refine thenS_ret ?_ | refine inBlockS_normal ?_ | refine inBlockS_ret ?_ | refine inBlockS_hit rfl ?_ | refine inBlockS_miss rfl ?_ | refine lwp_block ?_ | refine lwp_skip ?_ | refine lwp_exit ?_ | refine lwp_ret ?_ | refine lwp_label ?_ | refine lwp_region hC ⟨[], [], []⟩ (told0 _ _) rfl True.intro ?_
            (refine lwp_cond hC rfl (by first | exact True.intro | ((try simp only [AllL, All, cd_p, cp_p, cv_p, InK, and_true, true_and]); all_goals ((repeat' (first | refine And.intro ?_ ?_ | intro _)) <;> first | omega | exact True.intro | assumption | (simp; done) | rfl | (simp_all; done) | (simp_all; omega)))) (fun hb => ?_) (fun hb => ?_) <;> (try simp only [decide_eq_true_eq, decide_eq_false_iff_not, Bool.not_eq_true', Bool.not_eq_false', ne_eq, Decidable.not_not] at hb))
            · clear hb
              repeat first | refine lwp_seq fun K hK => ?_ | (refine thenS_normal ?_; apply_assumption -exfalso -symm) | refine thenS_exit ?_ | refine thenS_ret ?_ | refine inBlockS_normal ?_ | refine inBlockS_ret ?_ | refine inBlockS_hit rfl ?_ | refine inBlockS_miss rfl ?_ | refine lwp_block ?_ | refine lwp_skip ?_ | refine lwp_exit ?_ | refine lwp_ret ?_ | refine lwp_label ?_ | refine lwp_region hC ⟨[], [], []⟩ (told0 _ _) rfl True.intro ?_
              refine lwp_loop (fun n : Nat => ⟨[(10, i64 n), (9, i64 ((0 : Nat) : Int)), (7, i64 (p - t.first)), (6, .ptr 4 0 0 0), (4, .ptr 3 0 0 0), (2, .ptr 2 0 0 0)], [(4, .blk 45 (gwL L 0 n)), (3, .blk 45 gz), (2, .blk 25 [i64 t.first, .sl 0 t.vals.length, .sl 1 t.holes.length]), (0, .ro t.vals.length 1 (.ints .i64 t.vals)), (1, .ro t.holes.length 2 (spC t.holes))], 5⟩) (fun n => n ≤ 4) (fun n => 4 - n) 0 ⟨?_, sub_intro hm [(0, some 0), (1, some 1), (2, some 2), (3, some 3), (4, some 4)] rfl ?_⟩ ?_
              · omega
              · ((try simp only [AllL, All, cd_p, cp_p, cv_p, InK, and_true, true_and]); all_goals ((repeat' (first | refine And.intro ?_ ?_ | intro _)) <;> first | omega | exact True.intro | assumption | (simp; done) | rfl | (simp_all; done) | (simp_all; omega)))
              rintro n hn
              repeat first | refine lwp_seq fun K hK => ?_ | (refine thenS_normal ?_; apply_assumption -exfalso -symm) | refine thenS_exit ?_ | refine thenS_ret ?_ | refine inBlockS_normal ?_ | refine inBlockS_ret ?_ | refine inBlockS_hit rfl ?_ | refine inBlockS_miss rfl ?_ | refine lwp_block ?_ | refine lwp_skip ?_ | refine lwp_exit ?_ | refine lwp_ret ?_ | refine lwp_label ?_ | refine lwp_region hC ⟨[], [], []⟩ (told0 _ _) rfl True.intro ?_
              (refine lwp_cond hC rfl (by first | exact True.intro | ((try simp only [AllL, All, cd_p, cp_p, cv_p, InK, and_true, true_and]); all_goals ((repeat' (first | refine And.intro ?_ ?_ | intro _)) <;> first | omega | exact True.intro | assumption | (simp; done) | rfl | (simp_all; done) | (simp_all; omega)))) (fun hb => ?_) (fun hb => ?_) <;> (try simp only [decide_eq_true_eq, decide_eq_false_iff_not, Bool.not_eq_true', Bool.not_eq_false', ne_eq, Decidable.not_not] at hb))
              · have hn4 : n < 4 := by omega
                clear hb
                have g1 := HG.out n hn4
                have g2 := HB.out n
                have g3 := HR.out ((0 : Nat) : Int) n
                have g4 := HI.out ((0 : Nat) : Int) n
                have g5 := HR.out ((0 : Nat) : Int) (n + 1)
                have g6 := HI.out ((0 : Nat) : Int) (n + 1)
                have s1 := fR_step L 0 n
                have s2 := fI_step L 0 n
                rw [g1] at s1 s2 g2
                have S1 := Lib.hid s1
                have S2 := Lib.hid s2
                have hn5 : ((n : Nat) : Int) ≤ 3 := by omega
                have b1 : ((n : Nat) : Int) * 1073741824 ≤ 4294967296 := by omega
                have b2 : ((n + 1 : Nat) : Int) * 1073741824 ≤ 4294967296 := by omega
                repeat first | refine lwp_seq fun K hK => ?_ | (refine thenS_normal ?_; apply_assumption -exfalso -symm) | refine thenS_exit ?_ | refine thenS_ret ?_ | refine inBlockS_normal ?_ | refine inBlockS_ret ?_ | refine inBlockS_hit rfl ?_ | refine inBlockS_miss rfl ?_ | refine lwp_block ?_ | refine lwp_skip ?_ | refine lwp_exit ?_ | refine lwp_ret ?_ | refine lwp_label ?_ | refine lwp_region hC ⟨[], [], []⟩ (told0 _ _) rfl True.intro ?_
                (refine lwp_drawn2 hC (by rw [hP]; exact mixed) ⟨[], [], [(15, RPower_i (((0 : Nat) : Int) * (n : Int))), (16, Times_i (t.vals.getD (p - t.first + (n : Int)).toNat 0) 0 (powR (((0 : Nat) : Int) * (n : Int) % 4)) (-powI (((0 : Nat) : Int) * (n : Int) % 4))), (17, Plus_i (fR L ((0 : Nat) : Int) n) (fI L ((0 : Nat) : Int) n) ((t.vals.getD (p - t.first + (n : Int)).toNat 0) * powR (((0 : Nat) : Int) * (n : Int) % 4) - 0 * -powI (((0 : Nat) : Int) * (n : Int) % 4)) ((t.vals.getD (p - t.first + (n : Int)).toNat 0) * -powI (((0 : Nat) : Int) * (n : Int) % 4) + 0 * powR (((0 : Nat) : Int) * (n : Int) % 4)))]⟩ (told1 _ (by rw [hP]; exact (calls_cons (RPower_s _ (by omega)) (calls_cons (Times_s _ _ _ g2 (powR_three _) (negI_three _)) (calls_cons (Plus_s _ _ _ _ (by rw [S1.out]; omega) (by rw [S2.out]; omega)) calls_nil))))) [0, 0, 2, 6, 0, 16, 0, 0, 192, 496, 1008, 2032, 0, 0, 12288, 28672, 65520, 131070, 262143, 524287] 19 0 rfl ?_ ?_; rotate_left 1)
                · repeat first | refine lwp_seq fun K hK => ?_ | (refine thenS_normal ?_; apply_assumption -exfalso -symm) | refine thenS_exit ?_ | refine thenS_ret ?_ | refine inBlockS_normal ?_ | refine inBlockS_ret ?_ | refine inBlockS_hit rfl ?_ | refine inBlockS_miss rfl ?_ | refine lwp_block ?_ | refine lwp_skip ?_ | refine lwp_exit ?_ | refine lwp_ret ?_ | refine lwp_label ?_ | refine lwp_region hC ⟨[], [], []⟩ (told0 _ _) rfl True.intro ?_ | refine lwp_region hC ⟨[], [], []⟩ (told0 _ _) rfl (by ((try simp only [AllL, All, cd_p, cp_p, cv_p, InK, and_true, true_and]); all_goals ((repeat' (first | refine And.intro ?_ ?_ | intro _)) <;> first | omega | exact True.intro | assumption | (simp; done) | rfl | (simp_all; done) | (simp_all; omega)))) ?_
                  refine thenS_normal ⟨n + 1, ?_, ?_, sub_intro hm [(0, some 0), (1, some 1), (2, some 2), (3, some 3), (4, some 4)] rfl ?_⟩
                  · omega
                  · omega
                  · simp only [All, cd_p, cp_p, cv_p]
                    (repeat' refine And.intro ?_ ?_) <;> first | exact S1.out.symm | exact S2.out.symm | exact True.intro | rfl | omega
                · ((try simp only [AllL, All, cd_p, cp_p, cv_p, InK, and_true, true_and]); all_goals ((repeat' (first | refine And.intro ?_ ?_ | intro _)) <;> first | omega | exact True.intro | assumption | (simp; done) | rfl | (simp_all; done) | (simp_all; omega)))
              · obtain rfl : n = 4 := by omega
                clear hb
                repeat first | refine lwp_seq fun K hK => ?_ | (refine thenS_normal ?_; apply_assumption -exfalso -symm) | refine thenS_exit ?_ | refine thenS_ret ?_ | refine inBlockS_normal ?_ | refine inBlockS_ret ?_ | refine inBlockS_hit rfl ?_ | refine inBlockS_miss rfl ?_ | refine lwp_block ?_ | refine lwp_skip ?_ | refine lwp_exit ?_ | refine lwp_ret ?_ | refine lwp_label ?_ | refine lwp_region hC ⟨[], [], []⟩ (told0 _ _) rfl True.intro ?_ | refine lwp_region hC ⟨[], [], []⟩ (told0 _ _) rfl (by ((try simp only [AllL, All, cd_p, cp_p, cv_p, InK, and_true, true_and]); all_goals ((repeat' (first | refine And.intro ?_ ?_ | intro _)) <;> first | omega | exact True.intro | assumption | (simp; done) | rfl | (simp_all; done) | (simp_all; omega)))) ?_
                refine thenS_normal ⟨1, ?_, ?_, sub_intro hm [(0, some 0), (1, some 1), (2, some 2), (3, some 3), (4, some 4)] rfl ?_⟩
                · omega
                · omega
                · simp only [All, cd_p, cp_p, cv_p]
                  (repeat' refine And.intro ?_ ?_) <;> first | trivial | rfl | omega
            · omega
          · repeat first | refine lwp_seq fun K hK => ?_ | (refine thenS_normal ?_; apply_assumption -exfalso -symm) | refine thenS_exit ?_ | refine thenS_ret ?_ | refine inBlockS_normal ?_ | refine inBlockS_ret ?_ | refine inBlockS_hit rfl ?_ | refine inBlockS_miss rfl ?_ | refine lwp_block ?_ | refine lwp_skip ?_ | refine lwp_exit ?_ | refine lwp_ret ?_ | refine lwp_label ?_ | refine lwp_region hC ⟨[], [], []⟩ (told0 _ _) rfl True.intro ?_
            (refine lwp_cond hC rfl (by first | exact True.intro | ((try simp only [AllL, All, cd_p, cp_p, cv_p, InK, and_true, true_and]); all_goals ((repeat' (first | refine And.intro ?_ ?_ | intro _)) <;> first | omega | exact True.intro | assumption | (simp; done) | rfl | (simp_all; done) | (simp_all; omega)))) (fun hb => ?_) (fun hb => ?_) <;> (try simp only [decide_eq_true_eq, decide_eq_false_iff_not, Bool.not_eq_true', Bool.not_eq_false', ne_eq, Decidable.not_not] at hb))
            · clear hb
              repeat first | refine lwp_seq fun K hK => ?_ | (refine thenS_normal ?_; apply_assumption -exfalso -symm) | refine thenS_exit ?_ | refine thenS_ret ?_ | refine inBlockS_normal ?_ | refine inBlockS_ret ?_ | refine inBlockS_hit rfl ?_ | refine inBlockS_miss rfl ?_ | refine lwp_block ?_ | refine lwp_skip ?_ | refine lwp_exit ?_ | refine lwp_ret ?_ | refine lwp_label ?_ | refine lwp_region hC ⟨[], [], []⟩ (told0 _ _) rfl True.intro ?_
              refine lwp_loop (fun n : Nat => ⟨[(10, i64 n), (9, i64 ((1 : Nat) : Int)), (7, i64 (p - t.first)), (6, .ptr 4 0 0 0), (4, .ptr 3 0 0 0), (2, .ptr 2 0 0 0)], [(4, .blk 45 (gwL L 1 n)), (3, .blk 45 gz), (2, .blk 25 [i64 t.first, .sl 0 t.vals.length, .sl 1 t.holes.length]), (0, .ro t.vals.length 1 (.ints .i64 t.vals)), (1, .ro t.holes.length 2 (spC t.holes))], 5⟩) (fun n => n ≤ 4) (fun n => 4 - n) 0 ⟨?_, sub_intro hm [(0, some 0), (1, some 1), (2, some 2), (3, some 3), (4, some 4)] rfl ?_⟩ ?_
              · omega
              · ((try simp only [AllL, All, cd_p, cp_p, cv_p, InK, and_true, true_and]); all_goals ((repeat' (first | refine And.intro ?_ ?_ | intro _)) <;> first | omega | exact True.intro | assumption | (simp; done) | rfl | (simp_all; done) | (simp_all; omega)))
              rintro n hn
              repeat first | refine lwp_seq fun K hK => ?_ | (refine thenS_normal ?_; apply_assumption -exfalso -symm) | refine thenS_exit ?_ | refine thenS_ret ?_ | refine inBlockS_normal ?_ | refine inBlockS_ret ?_ | refine inBlockS_hit rfl ?_ | refine inBlockS_miss rfl ?_ | refine lwp_block ?_ | refine lwp_skip ?_ | refine lwp_exit ?_ | refine lwp_ret ?_ | refine lwp_label ?_ | refine lwp_region hC ⟨[], [], []⟩ (told0 _ _) rfl True.intro ?_
              (refine lwp_cond hC rfl (by first | exact True.intro | ((try simp only [AllL, All, cd_p, cp_p, cv_p, InK, and_true, true_and]); all_goals ((repeat' (first | refine And.intro ?_ ?_ | intro _)) <;> first | omega | exact True.intro | assumption | (simp; done) | rfl | (simp_all; done) | (simp_all; omega)))) (fun hb => ?_) (fun hb => ?_) <;> (try simp only [decide_eq_true_eq, decide_eq_false_iff_not, Bool.not_eq_true', Bool.not_eq_false', ne_eq, Decidable.not_not] at hb))
              · have hn4 : n < 4 := by omega
                clear hb
                have g1 := HG.out n hn4
                have g2 := HB.out n
                have g3 := HR.out ((1 : Nat) : Int) n
                have g4 := HI.out ((1 : Nat) : Int) n
                have g5 := HR.out ((1 : Nat) : Int) (n + 1)
                have g6 := HI.out ((1 : Nat) : Int) (n + 1)
                have s1 := fR_step L 1 n
                have s2 := fI_step L 1 n
                rw [g1] at s1 s2 g2
                have S1 := Lib.hid s1
                have S2 := Lib.hid s2
                have hn5 : ((n : Nat) : Int) ≤ 3 := by omega
                have b1 : ((n : Nat) : Int) * 1073741824 ≤ 4294967296 := by omega
                have b2 : ((n + 1 : Nat) : Int) * 1073741824 ≤ 4294967296 := by omega
                repeat first | refine lwp_seq fun K hK => ?_ | (refine thenS_normal ?_; apply_assumption -exfalso -symm) | refine thenS_exit ?_ | refine thenS_ret ?_ | refine inBlockS_normal ?_ | refine inBlockS_ret ?_ | refine inBlockS_hit rfl ?_ | refine inBlockS_miss rfl ?_ | refine lwp_block ?_ | refine lwp_skip ?_ | refine lwp_exit ?_ | refine lwp_ret ?_ | refine lwp_label ?_ | refine lwp_region hC ⟨[], [], []⟩ (told0 _ _) rfl True.intro ?_
                (refine lwp_drawn2 hC (by rw [hP]; exact mixed) ⟨[], [], [(15, RPower_i (((1 : Nat) : Int) * (n : Int))), (16, Times_i (t.vals.getD (p - t.first + (n : Int)).toNat 0) 0 (powR (((1 : Nat) : Int) * (n : Int) % 4)) (-powI (((1 : Nat) : Int) * (n : Int) % 4))), (17, Plus_i (fR L ((1 : Nat) : Int) n) (fI L ((1 : Nat) : Int) n) ((t.vals.getD (p - t.first + (n : Int)).toNat 0) * powR (((1 : Nat) : Int) * (n : Int) % 4) - 0 * -powI (((1 : Nat) : Int) * (n : Int) % 4)) ((t.vals.getD (p - t.first + (n : Int)).toNat 0) * -powI (((1 : Nat) : Int) * (n : Int) % 4) + 0 * powR (((1 : Nat) : Int) * (n : Int) % 4)))]⟩ (told1 _ (by rw [hP]; exact (calls_cons (RPower_s _ (by omega)) (calls_cons (Times_s _ _ _ g2 (powR_three _) (negI_three _)) (calls_cons (Plus_s _ _ _ _ (by rw [S1.out]; omega) (by rw [S2.out]; omega)) calls_nil))))) [0, 0, 2, 6, 0, 16, 0, 0, 192, 496, 1008, 2032, 0, 0, 12288, 28672, 65520, 131070, 262143, 524287] 19 0 rfl ?_ ?_; rotate_left 1)
                · repeat first | refine lwp_seq fun K hK => ?_ | (refine thenS_normal ?_; apply_assumption -exfalso -symm) | refine thenS_exit ?_ | refine thenS_ret ?_ | refine inBlockS_normal ?_ | refine inBlockS_ret ?_ | refine inBlockS_hit rfl ?_ | refine inBlockS_miss rfl ?_ | refine lwp_block ?_ | refine lwp_skip ?_ | refine lwp_exit ?_ | refine lwp_ret ?_ | refine lwp_label ?_ | refine lwp_region hC ⟨[], [], []⟩ (told0 _ _) rfl True.intro ?_ | refine lwp_region hC ⟨[], [], []⟩ (told0 _ _) rfl (by ((try simp only [AllL, All, cd_p, cp_p, cv_p, InK, and_true, true_and]); all_goals ((repeat' (first | refine And.intro ?_ ?_ | intro _)) <;> first | omega | exact True.intro | assumption | (simp; done) | rfl | (simp_all; done) | (simp_all; omega)))) ?_
                  refine thenS_normal ⟨n + 1, ?_, ?_, sub_intro hm [(0, some 0), (1, some 1), (2, some 2), (3, some 3), (4, some 4)] rfl ?_⟩
                  · omega
                  · omega
                  · simp only [All, cd_p, cp_p, cv_p]
                    (repeat' refine And.intro ?_ ?_) <;> first | exact S1.out.symm | exact S2.out.symm | exact True.intro | rfl | omega
                · ((try simp only [AllL, All, cd_p, cp_p, cv_p, InK, and_true, true_and]); all_goals ((repeat' (first | refine And.intro ?_ ?_ | intro _)) <;> first | omega | exact True.intro | assumption | (simp; done) | rfl | (simp_all; done) | (simp_all; omega)))
              · obtain rfl : n = 4 := by omega
                clear hb
                repeat first | refine lwp_seq fun K hK => ?_ | (refine thenS_normal ?_; apply_assumption -exfalso -symm) | refine thenS_exit ?_ | refine thenS_ret ?_ | refine inBlockS_normal ?_ | refine inBlockS_ret ?_ | refine inBlockS_hit rfl ?_ | refine inBlockS_miss rfl ?_ | refine lwp_block ?_ | refine lwp_skip ?_ | refine lwp_exit ?_ | refine lwp_ret ?_ | refine lwp_label ?_ | refine lwp_region hC ⟨[], [], []⟩ (told0 _ _) rfl True.intro ?_ | refine lwp_region hC ⟨[], [], []⟩ (told0 _ _) rfl (by ((try simp only [AllL, All, cd_p, cp_p, cv_p, InK, and_true, true_and]); all_goals ((repeat' (first | refine And.intro ?_ ?_ | intro _)) <;> first | omega | exact True.intro | assumption | (simp; done) | rfl | (simp_all; done) | (simp_all; omega)))) ?_
                refine thenS_normal ⟨2, ?_, ?_, sub_intro hm [(0, some 0), (1, some 1), (2, some 2), (3, some 3), (4, some 4)] rfl ?_⟩
                · omega
                · omega
                · simp only [All, cd_p, cp_p, cv_p]
                  (repeat' refine And.intro ?_ ?_) <;> first | trivial | rfl | omega
            · omega
          · repeat first | refine lwp_seq fun K hK => ?_ | (refine thenS_normal ?_; apply_assumption -exfalso -symm) | refine thenS_exit ?_ | refine thenS_ret ?_ | refine inBlockS_normal ?_ | refine inBlockS_ret ?_ | refine inBlockS_hit rfl ?_ | refine inBlockS_miss rfl ?_ | refine lwp_block ?_ | refine lwp_skip ?_ | refine lwp_exit ?_ | refine lwp_ret ?_ | refine lwp_label ?_ | refine lwp_region hC ⟨[], [], []⟩ (told0 _ _) rfl True.intro ?_
            (refine lwp_cond hC rfl (by first | exact True.intro | ((try simp only [AllL, All, cd_p, cp_p, cv_p, InK, and_true, true_and]); all_goals ((repeat' (first | refine And.intro ?_ ?_ | intro _)) <;> first | omega | exact True.intro | assumption | (simp; done) | rfl | (simp_all; done) | (simp_all; omega)))) (fun hb => ?_) (fun hb => ?_) <;> (try simp only [decide_eq_true_eq, decide_eq_false_iff_not, Bool.not_eq_true', Bool.not_eq_false', ne_eq, Decidable.not_not] at hb))
            · clear hb
              repeat first | refine lwp_seq fun K hK => ?_ | (refine thenS_normal ?_; apply_assumption -exfalso -symm) | refine thenS_exit ?_ | refine thenS_ret ?_ | refine inBlockS_normal ?_ | refine inBlockS_ret ?_ | refine inBlockS_hit rfl ?_ | refine inBlockS_miss rfl ?_ | refine lwp_block ?_ | refine lwp_skip ?_ | refine lwp_exit ?_ | refine lwp_ret ?_ | refine lwp_label ?_ | refine lwp_region hC ⟨[], [], []⟩ (told0 _ _) rfl True.intro ?_
              refine lwp_loop (fun n : Nat => ⟨[(10, i64 n), (9, i64 ((2 : Nat) : Int)), (7, i64 (p - t.first)), (6, .ptr 4 0 0 0), (4, .ptr 3 0 0 0), (2, .ptr 2 0 0 0)], [(4, .blk 45 (gwL L 2 n)), (3, .blk 45 gz), (2, .blk 25 [i64 t.first, .sl 0 t.vals.length, .sl 1 t.holes.length]), (0, .ro t.vals.length 1 (.ints .i64 t.vals)), (1, .ro t.holes.length 2 (spC t.holes))], 5⟩) (fun n => n ≤ 4) (fun n => 4 - n) 0 ⟨?_, sub_intro hm [(0, some 0), (1, some 1), (2, some 2), (3, some 3), (4, some 4)] rfl ?_⟩ ?_
              · omega
              · ((try simp only [AllL, All, cd_p, cp_p, cv_p, InK, and_true, true_and]); all_goals ((repeat' (first | refine And.intro ?_ ?_ | intro _)) <;> first | omega | exact True.intro | assumption | (simp; done) | rfl | (simp_all; done) | (simp_all; omega)))
              rintro n hn
              repeat first | refine lwp_seq fun K hK => ?_ | (refine thenS_normal ?_; apply_assumption -exfalso -symm) | refine thenS_exit ?_ | refine thenS_ret ?_ | refine inBlockS_normal ?_ | refine inBlockS_ret ?_ | refine inBlockS_hit rfl ?_ | refine inBlockS_miss rfl ?_ | refine lwp_block ?_ | refine lwp_skip ?_ | refine lwp_exit ?_ | refine lwp_ret ?_ | refine lwp_label ?_ | refine lwp_region hC ⟨[], [], []⟩ (told0 _ _) rfl True.intro ?_
              (refine lwp_cond hC rfl (by first | exact True.intro | ((try simp only [AllL, All, cd_p, cp_p, cv_p, InK, and_true, true_and]); all_goals ((repeat' (first | refine And.intro ?_ ?_ | intro _)) <;> first | omega | exact True.intro | assumption | (simp; done) | rfl | (simp_all; done) | (simp_all; omega)))) (fun hb => ?_) (fun hb => ?_) <;> (try simp only [decide_eq_true_eq, decide_eq_false_iff_not, Bool.not_eq_true', Bool.not_eq_false', ne_eq, Decidable.not_not] at hb))
              · have hn4 : n < 4 := by omega
                clear hb
                have g1 := HG.out n hn4
                have g2 := HB.out n
                have g3 := HR.out ((2 : Nat) : Int) n
                have g4 := HI.out ((2 : Nat) : Int) n
                have g5 := HR.out ((2 : Nat) : Int) (n + 1)
                have g6 := HI.out ((2 : Nat) : Int) (n + 1)
                have s1 := fR_step L 2 n
                have s2 := fI_step L 2 n
                rw [g1] at s1 s2 g2
                have S1 := Lib.hid s1
                have S2 := Lib.hid s2
                have hn5 : ((n : Nat) : Int) ≤ 3 := by omega
                have b1 : ((n : Nat) : Int) * 1073741824 ≤ 4294967296 := by omega
                have b2 : ((n + 1 : Nat) : Int) * 1073741824 ≤ 4294967296 := by omega
                repeat first | refine lwp_seq fun K hK => ?_ | (refine thenS_normal ?_; apply_assumption -exfalso -symm) | refine thenS_exit ?_ | refine thenS_ret ?_ | refine inBlockS_normal ?_ | refine inBlockS_ret ?_ | refine inBlockS_hit rfl ?_ | refine inBlockS_miss rfl ?_ | refine lwp_block ?_ | refine lwp_skip ?_ | refine lwp_exit ?_ | refine lwp_ret ?_ | refine lwp_label ?_ | refine lwp_region hC ⟨[], [], []⟩ (told0 _ _) rfl True.intro ?_
                (refine lwp_drawn2 hC (by rw [hP]; exact mixed) ⟨[], [], [(15, RPower_i (((2 : Nat) : Int) * (n : Int))), (16, Times_i (t.vals.getD (p - t.first + (n : Int)).toNat 0) 0 (powR (((2 : Nat) : Int) * (n : Int) % 4)) (-powI (((2 : Nat) : Int) * (n : Int) % 4))), (17, Plus_i (fR L ((2 : Nat) : Int) n) (fI L ((2 : Nat) : Int) n) ((t.vals.getD (p - t.first + (n : Int)).toNat 0) * powR (((2 : Nat) : Int) * (n : Int) % 4) - 0 * -powI (((2 : Nat) : Int) * (n : Int) % 4)) ((t.vals.getD (p - t.first + (n : Int)).toNat 0) * -powI (((2 : Nat) : Int) * (n : Int) % 4) + 0 * powR (((2 : Nat) : Int) * (n : Int) % 4)))]⟩ (told1 _ (by rw [hP]; exact (calls_cons (RPower_s _ (by omega)) (calls_cons (Times_s _ _ _ g2 (powR_three _) (negI_three _)) (calls_cons (Plus_s _ _ _ _ (by rw [S1.out]; omega) (by rw [S2.out]; omega)) calls_nil))))) [0, 0, 2, 6, 0, 16, 0, 0, 192, 496, 1008, 2032, 0, 0, 12288, 28672, 65520, 131070, 262143, 524287] 19 0 rfl ?_ ?_; rotate_left 1)
                · repeat first | refine lwp_seq fun K hK => ?_ | (refine thenS_normal ?_; apply_assumption -exfalso -symm) | refine thenS_exit ?_ | refine thenS_ret ?_ | refine inBlockS_normal ?_ | refine inBlockS_ret ?_ | refine inBlockS_hit rfl ?_ | refine inBlockS_miss rfl ?_ | refine lwp_block ?_ | refine lwp_skip ?_ | refine lwp_exit ?_ | refine lwp_ret ?_ | refine lwp_label ?_ | refine lwp_region hC ⟨[], [], []⟩ (told0 _ _) rfl True.intro ?_ | refine lwp_region hC ⟨[], [], []⟩ (told0 _ _) rfl (by ((try simp only [AllL, All, cd_p, cp_p, cv_p, InK, and_true, true_and]); all_goals ((repeat' (first | refine And.intro ?_ ?_ | intro _)) <;> first | omega | exact True.intro | assumption | (simp; done) | rfl | (simp_all; done) | (simp_all; omega)))) ?_
                  refine thenS_normal ⟨n + 1, ?_, ?_, sub_intro hm [(0, some 0), (1, some 1), (2, some 2), (3, some 3), (4, some 4)] rfl ?_⟩
                  · omega
                  · omega
                  · simp only [All, cd_p, cp_p, cv_p]
                    (repeat' refine And.intro ?_ ?_) <;> first | exact S1.out.symm | exact S2.out.symm | exact True.intro | rfl | omega
                · ((try simp only [AllL, All, cd_p, cp_p, cv_p, InK, and_true, true_and]); all_goals ((repeat' (first | refine And.intro ?_ ?_ | intro _)) <;> first | omega | exact True.intro | assumption | (simp; done) | rfl | (simp_all; done) | (simp_all; omega)))
              · obtain rfl : n = 4 := by omega
                clear hb
                repeat first | refine lwp_seq fun K hK => ?_ | (refine thenS_normal ?_; apply_assumption -exfalso -symm) | refine thenS_exit ?_ | refine thenS_ret ?_ | refine inBlockS_normal ?_ | refine inBlockS_ret ?_ | refine inBlockS_hit rfl ?_ | refine inBlockS_miss rfl ?_ | refine lwp_block ?_ | refine lwp_skip ?_ | refine lwp_exit ?_ | refine lwp_ret ?_ | refine lwp_label ?_ | refine lwp_region hC ⟨[], [], []⟩ (told0 _ _) rfl True.intro ?_ | refine lwp_region hC ⟨[], [], []⟩ (told0 _ _) rfl (by ((try simp only [AllL, All, cd_p, cp_p, cv_p, InK, and_true, true_and]); all_goals ((repeat' (first | refine And.intro ?_ ?_ | intro _)) <;> first | omega | exact True.intro | assumption | (simp; done) | rfl | (simp_all; done) | (simp_all; omega)))) ?_
                refine thenS_normal ⟨3, ?_, ?_, sub_intro hm [(0, some 0), (1, some 1), (2, some 2), (3, some 3), (4, some 4)] rfl ?_⟩
                · omega
                · omega
                · simp only [All, cd_p, cp_p, cv_p]
                  (repeat' refine And.intro ?_ ?_) <;> first | trivial | rfl | omega
            · omega
          · repeat first | refine lwp_seq fun K hK => ?_ | (refine thenS_normal ?_; apply_assumption -exfalso -symm) | refine thenS_exit ?_ | refine thenS_ret ?_ | refine inBlockS_normal ?_ | refine inBlockS_ret ?_ | refine inBlockS_hit rfl ?_ | refine inBlockS_miss rfl ?_ | refine lwp_block ?_ | refine lwp_skip ?_ | refine lwp_exit ?_ | refine lwp_ret ?_ | refine lwp_label ?_ | refine lwp_region hC ⟨[], [], []⟩ (told0 _ _) rfl True.intro ?_
            (refine lwp_cond hC rfl (by first | exact True.intro | ((try simp only [AllL, All, cd_p, cp_p, cv_p, InK, and_true, true_and]); all_goals ((repeat' (first | refine And.intro ?_ ?_ | intro _)) <;> first | omega | exact True.intro | assumption | (simp; done) | rfl | (simp_all; done) | (simp_all; omega)))) (fun hb => ?_) (fun hb => ?_) <;> (try simp only [decide_eq_true_eq, decide_eq_false_iff_not, Bool.not_eq_true', Bool.not_eq_false', ne_eq, Decidable.not_not] at hb))
            · clear hb
              repeat first | refine lwp_seq fun K hK => ?_ | (refine thenS_normal ?_; apply_assumption -exfalso -symm) | refine thenS_exit ?_ | refine thenS_ret ?_ | refine inBlockS_normal ?_ | refine inBlockS_ret ?_ | refine inBlockS_hit rfl ?_ | refine inBlockS_miss rfl ?_ | refine lwp_block ?_ | refine lwp_skip ?_ | refine lwp_exit ?_ | refine lwp_ret ?_ | refine lwp_label ?_ | refine lwp_region hC ⟨[], [], []⟩ (told0 _ _) rfl True.intro ?_
              refine lwp_loop (fun n : Nat => ⟨[(10, i64 n), (9, i64 ((3 : Nat) : Int)), (7, i64 (p - t.first)), (6, .ptr 4 0 0 0), (4, .ptr 3 0 0 0), (2, .ptr 2 0 0 0)], [(4, .blk 45 (gwL L 3 n)), (3, .blk 45 gz), (2, .blk 25 [i64 t.first, .sl 0 t.vals.length, .sl 1 t.holes.length]), (0, .ro t.vals.length 1 (.ints .i64 t.vals)), (1, .ro t.holes.length 2 (spC t.holes))], 5⟩) (fun n => n ≤ 4) (fun n => 4 - n) 0 ⟨?_, sub_intro hm [(0, some 0), (1, some 1), (2, some 2), (3, some 3), (4, some 4)] rfl ?_⟩ ?_
              · omega
              · ((try simp only [AllL, All, cd_p, cp_p, cv_p, InK, and_true, true_and]); all_goals ((repeat' (first | refine And.intro ?_ ?_ | intro _)) <;> first | omega | exact True.intro | assumption | (simp; done) | rfl | (simp_all; done) | (simp_all; omega)))
              rintro n hn
              repeat first | refine lwp_seq fun K hK => ?_ | (refine thenS_normal ?_; apply_assumption -exfalso -symm) | refine thenS_exit ?_ | refine thenS_ret ?_ | refine inBlockS_normal ?_ | refine inBlockS_ret ?_ | refine inBlockS_hit rfl ?_ | refine inBlockS_miss rfl ?_ | refine lwp_block ?_ | refine lwp_skip ?_ | refine lwp_exit ?_ | refine lwp_ret ?_ | refine lwp_label ?_ | refine lwp_region hC ⟨[], [], []⟩ (told0 _ _) rfl True.intro ?_
              (refine lwp_cond hC rfl (by first | exact True.intro | ((try simp only [AllL, All, cd_p, cp_p, cv_p, InK, and_true, true_and]); all_goals ((repeat' (first | refine And.intro ?_ ?_ | intro _)) <;> first | omega | exact True.intro | assumption | (simp; done) | rfl | (simp_all; done) | (simp_all; omega)))) (fun hb => ?_) (fun hb => ?_) <;> (try simp only [decide_eq_true_eq, decide_eq_false_iff_not, Bool.not_eq_true', Bool.not_eq_false', ne_eq, Decidable.not_not] at hb))
              · have hn4 : n < 4 := by omega
                clear hb
                have g1 := HG.out n hn4
                have g2 := HB.out n
                have g3 := HR.out ((3 : Nat) : Int) n
                have g4 := HI.out ((3 : Nat) : Int) n
                have g5 := HR.out ((3 : Nat) : Int) (n + 1)
                have g6 := HI.out ((3 : Nat) : Int) (n + 1)
                have s1 := fR_step L 3 n
                have s2 := fI_step L 3 n
                rw [g1] at s1 s2 g2
                have S1 := Lib.hid s1
                have S2 := Lib.hid s2
                have hn5 : ((n : Nat) : Int) ≤ 3 := by omega
                have b1 : ((n : Nat) : Int) * 1073741824 ≤ 4294967296 := by omega
                have b2 : ((n + 1 : Nat) : Int) * 1073741824 ≤ 4294967296 := by omega
                repeat first | refine lwp_seq fun K hK => ?_ | (refine thenS_normal ?_; apply_assumption -exfalso -symm) | refine thenS_exit ?_ | refine thenS_ret ?_ | refine inBlockS_normal ?_ | refine inBlockS_ret ?_ | refine inBlockS_hit rfl ?_ | refine inBlockS_miss rfl ?_ | refine lwp_block ?_ | refine lwp_skip ?_ | refine lwp_exit ?_ | refine lwp_ret ?_ | refine lwp_label ?_ | refine lwp_region hC ⟨[], [], []⟩ (told0 _ _) rfl True.intro ?_
                (refine lwp_drawn2 hC (by rw [hP]; exact mixed) ⟨[], [], [(15, RPower_i (((3 : Nat) : Int) * (n : Int))), (16, Times_i (t.vals.getD (p - t.first + (n : Int)).toNat 0) 0 (powR (((3 : Nat) : Int) * (n : Int) % 4)) (-powI (((3 : Nat) : Int) * (n : Int) % 4))), (17, Plus_i (fR L ((3 : Nat) : Int) n) (fI L ((3 : Nat) : Int) n) ((t.vals.getD (p - t.first + (n : Int)).toNat 0) * powR (((3 : Nat) : Int) * (n : Int) % 4) - 0 * -powI (((3 : Nat) : Int) * (n : Int) % 4)) ((t.vals.getD (p - t.first + (n : Int)).toNat 0) * -powI (((3 : Nat) : Int) * (n : Int) % 4) + 0 * powR (((3 : Nat) : Int) * (n : Int) % 4)))]⟩ (told1 _ (by rw [hP]; exact (calls_cons (RPower_s _ (by omega)) (calls_cons (Times_s _ _ _ g2 (powR_three _) (negI_three _)) (calls_cons (Plus_s _ _ _ _ (by rw [S1.out]; omega) (by rw [S2.out]; omega)) calls_nil))))) [0, 0, 2, 6, 0, 16, 0, 0, 192, 496, 1008, 2032, 0, 0, 12288, 28672, 65520, 131070, 262143, 524287] 19 0 rfl ?_ ?_; rotate_left 1)
                · repeat first | refine lwp_seq fun K hK => ?_ | (refine thenS_normal ?_; apply_assumption -exfalso -symm) | refine thenS_exit ?_ | refine thenS_ret ?_ | refine inBlockS_normal ?_ | refine inBlockS_ret ?_ | refine inBlockS_hit rfl ?_ | refine inBlockS_miss rfl ?_ | refine lwp_block ?_ | refine lwp_skip ?_ | refine lwp_exit ?_ | refine lwp_ret ?_ | refine lwp_label ?_ | refine lwp_region hC ⟨[], [], []⟩ (told0 _ _) rfl True.intro ?_ | refine lwp_region hC ⟨[], [], []⟩ (told0 _ _) rfl (by ((try simp only [AllL, All, cd_p, cp_p, cv_p, InK, and_true, true_and]); all_goals ((repeat' (first | refine And.intro ?_ ?_ | intro _)) <;> first | omega | exact True.intro | assumption | (simp; done) | rfl | (simp_all; done) | (simp_all; omega)))) ?_
                  refine thenS_normal ⟨n + 1, ?_, ?_, sub_intro hm [(0, some 0), (1, some 1), (2, some 2), (3, some 3), (4, some 4)] rfl ?_⟩
                  · omega
                  · omega
                  · simp only [All, cd_p, cp_p, cv_p]
                    (repeat' refine And.intro ?_ ?_) <;> first | exact S1.out.symm | exact S2.out.symm | exact True.intro | rfl | omega
                · ((try simp only [AllL, All, cd_p, cp_p, cv_p, InK, and_true, true_and]); all_goals ((repeat' (first | refine And.intro ?_ ?_ | intro _)) <;> first | omega | exact True.intro | assumption | (simp; done) | rfl | (simp_all; done) | (simp_all; omega)))
              · obtain rfl : n = 4 := by omega
                clear hb
                repeat first | refine lwp_seq fun K hK => ?_ | (refine thenS_normal ?_; apply_assumption -exfalso -symm) | refine thenS_exit ?_ | refine thenS_ret ?_ | refine inBlockS_normal ?_ | refine inBlockS_ret ?_ | refine inBlockS_hit rfl ?_ | refine inBlockS_miss rfl ?_ | refine lwp_block ?_ | refine lwp_skip ?_ | refine lwp_exit ?_ | refine lwp_ret ?_ | refine lwp_label ?_ | refine lwp_region hC ⟨[], [], []⟩ (told0 _ _) rfl True.intro ?_ | refine lwp_region hC ⟨[], [], []⟩ (told0 _ _) rfl (by ((try simp only [AllL, All, cd_p, cp_p, cv_p, InK, and_true, true_and]); all_goals ((repeat' (first | refine And.intro ?_ ?_ | intro _)) <;> first | omega | exact True.intro | assumption | (simp; done) | rfl | (simp_all; done) | (simp_all; omega)))) ?_
                refine thenS_normal ⟨4, ?_, ?_, sub_intro hm [(0, some 0), (1, some 1), (2, some 2), (3, some 3), (4, some 4)] rfl ?_⟩
                · omega
                · omega
                · simp only [All, cd_p, cp_p, cv_p]
                  (repeat' refine And.intro ?_ ?_) <;> first | trivial | rfl | omega
            · omega
          · repeat first | refine lwp_seq fun K hK => ?_ | (refine thenS_normal ?_; apply_assumption -exfalso -symm) | refine thenS_exit ?_ | refine thenS_ret ?_ | refine inBlockS_normal ?_ | refine inBlockS_ret ?_ | refine inBlockS_hit rfl ?_ | refine inBlockS_miss rfl ?_ | refine lwp_block ?_ | refine lwp_skip ?_ | refine lwp_exit ?_ | refine lwp_ret ?_ | refine lwp_label ?_ | refine lwp_region hC ⟨[], [], []⟩ (told0 _ _) rfl True.intro ?_
            (refine lwp_cond hC rfl (by first | exact True.intro | ((try simp only [AllL, All, cd_p, cp_p, cv_p, InK, and_true, true_and]); all_goals ((repeat' (first | refine And.intro ?_ ?_ | intro _)) <;> first | omega | exact True.intro | assumption | (simp; done) | rfl | (simp_all; done) | (simp_all; omega)))) (fun hb => ?_) (fun hb => ?_) <;> (try simp only [decide_eq_true_eq, decide_eq_false_iff_not, Bool.not_eq_true', Bool.not_eq_false', ne_eq, Decidable.not_not] at hb))
            · omega
            · repeat first | refine lwp_seq fun K hK => ?_ | (refine thenS_normal ?_; apply_assumption -exfalso -symm) | refine thenS_exit ?_ | refine thenS_ret ?_ | refine inBlockS_normal ?_ | refine inBlockS_ret ?_ | refine inBlockS_hit rfl ?_ | refine inBlockS_miss rfl ?_ | refine lwp_block ?_ | refine lwp_skip ?_ | refine lwp_exit ?_ | refine lwp_ret ?_ | refine lwp_label ?_ | refine lwp_region hC ⟨[], [], []⟩ (told0 _ _) rfl True.intro ?_
              unfold gR gI
              simp only [hE, if_true]
              rw [hL]
              (refine end_intro (by first | exact .inr rfl | exact .inl rfl) [] rfl ?_)
              ((try simp only [AllL, All, cd_p, cp_p, cv_p, InK, and_true, true_and]); all_goals ((repeat' (first | refine And.intro ?_ ?_ | intro _)) <;> first | omega | exact True.intro | assumption | (simp; done) | rfl | (simp_all; done) | (simp_all; omega)))
    · have hE := panE_range ht hin
      have hN : ¬ panE t p = 0 := by rw [hE]; decide
      (refine lwp_cond hC rfl (by first | exact True.intro | ((try simp only [AllL, All, cd_p, cp_p, cv_p, InK, and_true, true_and]); all_goals ((repeat' (first | refine And.intro ?_ ?_ | intro _)) <;> first | omega | exact True.intro | assumption | (simp; done) | rfl | (simp_all; done) | (simp_all; omega)))) (fun hb => ?_) (fun hb => ?_) <;> (try simp only [decide_eq_true_eq, decide_eq_false_iff_not, Bool.not_eq_true', Bool.not_eq_false', ne_eq, Decidable.not_not] at hb))
      · repeat first | refine lwp_seq fun K hK => ?_ | (refine thenS_normal ?_; apply_assumption -exfalso -symm) | refine thenS_exit ?_ | refine thenS_ret ?_ | refine inBlockS_normal ?_ | refine inBlockS_ret ?_ | refine inBlockS_hit rfl ?_ | refine inBlockS_miss rfl ?_ | refine lwp_block ?_ | refine lwp_skip ?_ | refine lwp_exit ?_ | refine lwp_ret ?_ | refine lwp_label ?_ | refine lwp_region hC ⟨[], [], []⟩ (told0 _ _) rfl True.intro ?_
        unfold gR gI
        simp only [hN, if_false]
        rw [hE]
        (refine end_intro (by first | exact .inr rfl | exact .inl rfl) [] rfl ?_)
        ((try simp only [AllL, All, cd_p, cp_p, cv_p, InK, and_true, true_and]); all_goals ((repeat' (first | refine And.intro ?_ ?_ | intro _)) <;> first | omega | exact True.intro | assumption | (simp; done) | rfl | (simp_all; done) | (simp_all; omega)))
      · simp at hb
        omega
  · ((try simp only [AllL, All, cd_p, cp_p, cv_p, InK, and_true, true_and]); all_goals ((repeat' (first | refine And.intro ?_ ?_ | intro _)) <;> first | omega | exact True.intro | assumption | (simp; done) | rfl | (simp_all; done) | (simp_all; omega)))

end Go.Proofs.YtbpffadffbgloaaGreatDoor
