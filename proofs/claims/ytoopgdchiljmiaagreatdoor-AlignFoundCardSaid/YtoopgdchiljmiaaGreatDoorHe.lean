/- Contracts of sample: checkHoles, CheckRun. -/
import Derived.Test.YtoopgdchiljmiaaGreatDoorHd
set_option linter.unusedVariables false
set_option linter.unusedSimpArgs false
namespace Go.Proofs.YtoopgdchiljmiaaGreatDoor
open Go.RowKit Go.Sym

def rnIn (t : Rn) : List (Nat × Chunk) := [(0, .ro t.smp.length 1 (flC t.smp)), (1, .ro t.holes.length 2 (spC t.holes))]
def rnA (i j : Nat) (t : Rn) : AV := .agg [.lit (.string t.name), i64 t.first, .sl i t.smp.length, .sl j t.holes.length]
def holeR (t : Rn) : Int := if holesS t.smp.length (-1) t.holes ≠ 0 then holesS t.smp.length (-1) t.holes else formS (t.smp.map nzF) t.holes

theorem nzF_any (l : List Nat) (a n : Nat) : (((l.map nzF).drop a).take n).any (· != 0) = ((l.drop a).take n).any nzB := by
  rw [← List.map_drop, ← List.map_take, List.any_map]
  congr 1
  funext b
  unfold nzF nzB
  simp only [Function.comp]
  cases Op.floatEq .f32 b 0 <;> rfl
theorem fl_slice (l : List Nat) (a b : Nat) (h : b ≤ l.length) : (Cont.gen (b - a) 1 fun k => [Value.float .f32 (l.getD (a + k) 0)]).cells = (flC ((l.drop a).take (b - a))).cells := by
  rw [flC_cells]
  simp only [Cont.cells, Nat.mul_one, Nat.div_one, Nat.mod_one, floats, List.map_map]
  apply List.ext_getElem
  · simp; omega
  · intro i h1 h2
    simp at h1 h2
    have : a + i < l.length := by omega
    simp [List.getElem?_eq_getElem this]

def SHoles_i (t : Rn) (σ : Ren) : Inst := { f := 180, hin := rnIn t, args := [rnA 0 1 t], hout := [], ret := i64 (holeR t), σ := σ }
def ctR (t : Rn) : List (Nat × Chunk) := [(2, .blk 72 [.lit (.string t.name), i64 t.first, .sl 0 t.smp.length, .sl 1 t.holes.length]), (0, .ro t.smp.length 1 (flC t.smp)), (1, .ro t.holes.length 2 (spC t.holes))]
set_option maxRecDepth 20000 in
set_option maxHeartbeats 4000000 in
theorem SHoles_s (t : Rn) (σ : Ren) (hv : t.smp.length ≤ 100000) (hl : t.holes.length ≤ 100000) : (SHoles_i t σ).ok Tryz.prog := by
  unfold SHoles_i Inst.ok; dsimp only; refine spec_of_body (tys := tys) 2 Tryz.func180 (by kernel_rfl) rfl tys_ok rfl (Nat.le_of_ble_eq_true rfl) (fun _ _ h => (by cases h)) fun F hP hm hC hrd => ?_; conv => whnf
  repeat first | refine lwp_seq fun K hK => ?_ | ((with_reducible refine thenS_normal ?_); apply_assumption -exfalso -symm) | refine thenS_exit ?_ | refine thenS_ret ?_ | refine inBlockS_normal ?_ | refine inBlockS_ret ?_ | refine inBlockS_hit rfl ?_ | refine inBlockS_miss rfl ?_ | refine lwp_block ?_ | refine lwp_skip ?_ | refine lwp_exit ?_ | refine lwp_ret ?_ | refine lwp_label ?_ | refine lwp_region hC ⟨[], [], []⟩ (told0 _ _) rfl True.intro ?_
  refine lwp_loop (fun k : Nat => ⟨[(12, i64 k), (11, i64 t.holes.length), (10, .sl 1 t.holes.length), (3, i64 (lastH t.holes k)), (1, .ptr 2 0 0 0)], ctR t, 3⟩) (fun k => k ≤ t.holes.length ∧ holesS t.smp.length (-1) t.holes = holesS t.smp.length (lastH t.holes k) (t.holes.drop k)) (fun k => t.holes.length - k) 0 ⟨?_, sub_intro hm [(0, some 0), (1, some 1), (2, some 2)] rfl ?_⟩ ?_
  · exact ⟨Nat.zero_le _, rfl⟩
  · ((try simp only [AllL, All, cd_p, cp_p, cv_p, InK, and_true, true_and]); all_goals ((repeat' (first | refine And.intro ?_ ?_ | intro _)) <;> first | omega | exact True.intro | assumption | (simp; done) | rfl | (simp_all; done) | (simp_all; omega)))
  rintro j ⟨hj, hg⟩
  unfold ctR
  have hjj : ((j : Int)).toNat = j := Int.toNat_natCast j
  have HG := Lib.hid hg
  clear hg
  repeat first | refine lwp_seq fun K hK => ?_ | ((with_reducible refine thenS_normal ?_); apply_assumption -exfalso -symm) | refine thenS_exit ?_ | refine thenS_ret ?_ | refine inBlockS_normal ?_ | refine inBlockS_ret ?_ | refine inBlockS_hit rfl ?_ | refine inBlockS_miss rfl ?_ | refine lwp_block ?_ | refine lwp_skip ?_ | refine lwp_exit ?_ | refine lwp_ret ?_ | refine lwp_label ?_ | refine lwp_region hC ⟨[], [], []⟩ (told0 _ _) rfl True.intro ?_
  (refine lwp_cond hC rfl (by first | exact True.intro | ((try simp only [AllL, All, cd_p, cp_p, cv_p, InK, and_true, true_and]); all_goals ((repeat' (first | refine And.intro ?_ ?_ | intro _)) <;> first | omega | exact True.intro | assumption | (simp; done) | rfl | (simp_all; done) | (simp_all; omega)))) (fun hb => ?_) (fun hb => ?_) <;> (try simp only [decide_eq_true_eq, decide_eq_false_iff_not, Bool.not_eq_true', Bool.not_eq_false', ne_eq, Decidable.not_not] at hb))
  · have hj2 : j < t.holes.length := by omega
    have hg := HG.out
    rw [holesS_step _ _ _ _ hj2] at hg
    have HG := Lib.hid hg
    clear hg
    (repeat (first | (refine lwp_seq fun K hK => ?_) | (refine thenS_normal ?_; apply_assumption -exfalso -symm) | (refine thenS_exit ?_) | (refine thenS_ret ?_) | (refine inBlockS_normal ?_) | (refine inBlockS_ret ?_) | (refine inBlockS_hit rfl ?_) | (refine inBlockS_miss rfl ?_) | (refine lwp_block ?_) | (refine lwp_skip ?_) | (refine lwp_exit ?_) | (refine lwp_ret ?_) | (refine lwp_label ?_) | (refine lwp_region hC ⟨[], [], []⟩ (told0 _ _) rfl True.intro ?_) | (refine lwp_region hC ⟨[], [], []⟩ (told0 _ _) rfl (by ((try simp only [AllL, All, cd_p, cp_p, cv_p, InK, and_true, true_and]); all_goals ((repeat' (first | refine And.intro ?_ ?_ | intro _)) <;> first | omega | exact True.intro | assumption | (simp; done) | rfl | (simp_all; done) | (simp_all; omega)))) ?_)))
    rw [hjj]
    generalize hh2 : t.holes.getD j (0, 0) = h at *
    (refine lwp_drawn2 hC (by rw [hP]; exact mixed) ⟨[], [], [(18, SWhen_i (decide (h.1 < 0) || decide (h.2 ≤ h.1) || decide ((t.smp.length : Int) < h.2)) 14), (23, SWhen_i (decide (h.1 ≤ lastH t.holes j)) 11), (25, SFirst_i [spanS t.smp.length h, whenS (decide (h.1 ≤ lastH t.holes j)) 11] [(0, some 5)])]⟩ (told1 _ (by rw [hP]; exact (calls_cons (SWhen_s _ _) (calls_cons (SWhen_s _ _) (calls_cons (SFirst_s _ _ (by simp)) calls_nil))))) [0, 1, 3, 7, 15, 31, 15, 79, 255, 511, 1023, 2047, 4095, 2047, 10239, 26623, 65535, 131071, 262143, 0, 524288, 0, 3670016, 8388607, 16777215, 33554431, 67108863] 27 0 rfl ?_ ?_; rotate_left 1)
    · (repeat (first | (refine lwp_seq fun K hK => ?_) | (refine thenS_normal ?_; apply_assumption -exfalso -symm) | (refine thenS_exit ?_) | (refine thenS_ret ?_) | (refine inBlockS_normal ?_) | (refine inBlockS_ret ?_) | (refine inBlockS_hit rfl ?_) | (refine inBlockS_miss rfl ?_) | (refine lwp_block ?_) | (refine lwp_skip ?_) | (refine lwp_exit ?_) | (refine lwp_ret ?_) | (refine lwp_label ?_) | (refine lwp_region hC ⟨[], [], []⟩ (told0 _ _) rfl True.intro ?_) | (refine lwp_region hC ⟨[], [], []⟩ (told0 _ _) rfl (by ((try simp only [AllL, All, cd_p, cp_p, cv_p, InK, and_true, true_and]); all_goals ((repeat' (first | refine And.intro ?_ ?_ | intro _)) <;> first | omega | exact True.intro | assumption | (simp; done) | rfl | (simp_all; done) | (simp_all; omega)))) ?_)))
      (refine lwp_cond hC rfl (by first | exact True.intro | ((try simp only [AllL, All, cd_p, cp_p, cv_p, InK, and_true, true_and]); all_goals ((repeat' (first | refine And.intro ?_ ?_ | intro _)) <;> first | omega | exact True.intro | assumption | (simp; done) | rfl | (simp_all; done) | (simp_all; omega)))) (fun hb => ?_) (fun hb => ?_) <;> (try simp only [decide_eq_true_eq, decide_eq_false_iff_not, Bool.not_eq_true', Bool.not_eq_false', ne_eq, Decidable.not_not] at hb))
      · have e : holeR t = firstS [spanS t.smp.length h, whenS (decide (h.1 ≤ lastH t.holes j)) 11] := by
          have hb2 : holeS t.smp.length (lastH t.holes j) h ≠ 0 := hb
          have e3 := HG.out
          rw [if_pos hb2] at e3
          unfold holeR
          rw [e3, if_pos hb2]; rfl
        (repeat (first | (refine lwp_seq fun K hK => ?_) | (refine thenS_normal ?_; apply_assumption -exfalso -symm) | (refine thenS_exit ?_) | (refine thenS_ret ?_) | (refine inBlockS_normal ?_) | (refine inBlockS_ret ?_) | (refine inBlockS_hit rfl ?_) | (refine inBlockS_miss rfl ?_) | (refine lwp_block ?_) | (refine lwp_skip ?_) | (refine lwp_exit ?_) | (refine lwp_ret ?_) | (refine lwp_label ?_) | (refine lwp_region hC ⟨[], [], []⟩ (told0 _ _) rfl True.intro ?_) | (refine lwp_region hC ⟨[], [], []⟩ (told0 _ _) rfl (by ((try simp only [AllL, All, cd_p, cp_p, cv_p, InK, and_true, true_and]); all_goals ((repeat' (first | refine And.intro ?_ ?_ | intro _)) <;> first | omega | exact True.intro | assumption | (simp; done) | rfl | (simp_all; done) | (simp_all; omega)))) ?_)))
        (refine end_intro (by first | exact .inr rfl | exact .inl rfl) [] rfl ?_)
        exact ⟨e, trivial⟩
      · have hb2 : ¬ holeS t.smp.length (lastH t.holes j) h ≠ 0 := fun h => h hb
        have e3 := HG.out
        rw [if_neg hb2] at e3
        have hlast : lastH t.holes (j + 1) = h.2 := by
          unfold lastH
          rw [if_neg (Nat.succ_ne_zero j), Nat.add_sub_cancel, hh2]
        have HG2 := Lib.hid e3
        clear e3 hb hb2
        (repeat (first | (refine lwp_seq fun K hK => ?_) | (refine thenS_normal ?_; apply_assumption -exfalso -symm) | (refine thenS_exit ?_) | (refine thenS_ret ?_) | (refine inBlockS_normal ?_) | (refine inBlockS_ret ?_) | (refine inBlockS_hit rfl ?_) | (refine inBlockS_miss rfl ?_) | (refine lwp_block ?_) | (refine lwp_skip ?_) | (refine lwp_exit ?_) | (refine lwp_ret ?_) | (refine lwp_label ?_) | (refine lwp_region hC ⟨[], [], []⟩ (told0 _ _) rfl True.intro ?_) | (refine lwp_region hC ⟨[], [], []⟩ (told0 _ _) rfl (by ((try simp only [AllL, All, cd_p, cp_p, cv_p, InK, and_true, true_and]); all_goals ((repeat' (first | refine And.intro ?_ ?_ | intro _)) <;> first | omega | exact True.intro | assumption | (simp; done) | rfl | (simp_all; done) | (simp_all; omega)))) ?_)))
        refine thenS_normal ⟨j + 1, ?_, ?_, sub_intro hm [(0, some 0), (1, some 1), (2, some 2)] rfl ?_⟩
        · exact ⟨by omega, HG2.out⟩
        · omega
        · rw [hlast]; ((try simp only [AllL, All, cd_p, cp_p, cv_p, InK, and_true, true_and]); all_goals ((repeat' (first | refine And.intro ?_ ?_ | intro _)) <;> first | omega | exact True.intro | assumption | (simp; done) | rfl | (simp_all; done) | (simp_all; omega)))
    · unfold spanS
      refine ⟨trivial, ⟨rfl, rfl, rfl, trivial⟩, ⟨rfl, rfl, trivial⟩, ⟨rfl, ?_, trivial⟩, ?_⟩
      · show (decide (h.1 < 0) || decide (h.2 ≤ h.1) || decide ((t.smp.length : Int) < h.2)) = _
        rw [bif_or, bif_or]
      · simp only [AllL, All, cp_p, cd_p]
        generalize decide (h.1 < 0) = p
        generalize decide (h.2 ≤ h.1) = q
        revert p q
        decide
  · have hg0 : holesS t.smp.length (-1) t.holes = 0 := by rw [HG.out, List.drop_of_length_le (by omega)]; rfl
    have hok := holesS_ok _ _ _ hg0
    have hR : holeR t = formS (t.smp.map nzF) t.holes := by unfold holeR; rw [hg0]; rfl
    have HR := Lib.hid hR
    clear hR HG hg0
    have HOK := Lib.hid hok
    clear hok
    (repeat (first | (refine lwp_seq fun K hK => ?_) | (refine thenS_normal ?_; apply_assumption -exfalso -symm) | (refine thenS_exit ?_) | (refine thenS_ret ?_) | (refine inBlockS_normal ?_) | (refine inBlockS_ret ?_) | (refine inBlockS_hit rfl ?_) | (refine inBlockS_miss rfl ?_) | (refine lwp_block ?_) | (refine lwp_skip ?_) | (refine lwp_exit ?_) | (refine lwp_ret ?_) | (refine lwp_label ?_) | (refine lwp_region hC ⟨[], [], []⟩ (told0 _ _) rfl True.intro ?_) | (refine lwp_region hC ⟨[], [], []⟩ (told0 _ _) rfl (by ((try simp only [AllL, All, cd_p, cp_p, cv_p, InK, and_true, true_and]); all_goals ((repeat' (first | refine And.intro ?_ ?_ | intro _)) <;> first | omega | exact True.intro | assumption | (simp; done) | rfl | (simp_all; done) | (simp_all; omega)))) ?_)))
    refine lwp_loop (fun k : Nat => ⟨[(51, i64 k), (50, i64 t.holes.length), (49, .sl 1 t.holes.length), (1, .ptr 2 0 0 0)], ctR t, 3⟩) (fun k => k ≤ t.holes.length ∧ formS (t.smp.map nzF) t.holes = formS (t.smp.map nzF) (t.holes.drop k)) (fun k => t.holes.length - k) 0 ⟨?_, sub_intro hm [(0, some 0), (1, some 1), (2, some 2)] rfl ?_⟩ ?_
    · exact ⟨Nat.zero_le _, rfl⟩
    · ((try simp only [AllL, All, cd_p, cp_p, cv_p, InK, and_true, true_and]); all_goals ((repeat' (first | refine And.intro ?_ ?_ | intro _)) <;> first | omega | exact True.intro | assumption | (simp; done) | rfl | (simp_all; done) | (simp_all; omega)))
    rintro m ⟨hm', hg⟩
    unfold ctR
    have hmm : ((m : Int)).toNat = m := Int.toNat_natCast m
    have HG := Lib.hid hg
    clear hg
    repeat first | refine lwp_seq fun K hK => ?_ | ((with_reducible refine thenS_normal ?_); apply_assumption -exfalso -symm) | refine thenS_exit ?_ | refine thenS_ret ?_ | refine inBlockS_normal ?_ | refine inBlockS_ret ?_ | refine inBlockS_hit rfl ?_ | refine inBlockS_miss rfl ?_ | refine lwp_block ?_ | refine lwp_skip ?_ | refine lwp_exit ?_ | refine lwp_ret ?_ | refine lwp_label ?_ | refine lwp_region hC ⟨[], [], []⟩ (told0 _ _) rfl True.intro ?_
    (refine lwp_cond hC rfl (by first | exact True.intro | ((try simp only [AllL, All, cd_p, cp_p, cv_p, InK, and_true, true_and]); all_goals ((repeat' (first | refine And.intro ?_ ?_ | intro _)) <;> first | omega | exact True.intro | assumption | (simp; done) | rfl | (simp_all; done) | (simp_all; omega)))) (fun hb => ?_) (fun hb => ?_) <;> (try simp only [decide_eq_true_eq, decide_eq_false_iff_not, Bool.not_eq_true', Bool.not_eq_false', ne_eq, Decidable.not_not] at hb))
    · have hm2 : m < t.holes.length := by omega
      have hg := HG.out
      rw [List.drop_eq_getElem_cons hm2] at hg
      have eh : t.holes[m] = t.holes.getD m (0, 0) := by rw [List.getD_eq_getElem?_getD, List.getElem?_eq_getElem hm2]; rfl
      have hrange := HOK.out _ (List.getElem_mem hm2)
      rw [eh] at hg hrange
      rw [formS, nzF_any] at hg
      have ez : ((t.holes.getD m (0, 0)).2 - (t.holes.getD m (0, 0)).1).toNat = (t.holes.getD m (0, 0)).2.toNat - (t.holes.getD m (0, 0)).1.toNat := by omega
      rw [ez] at hg
      have HG := Lib.hid hg
      clear hg eh ez
      (repeat (first | (refine lwp_seq fun K hK => ?_) | (refine thenS_normal ?_; apply_assumption -exfalso -symm) | (refine thenS_exit ?_) | (refine thenS_ret ?_) | (refine inBlockS_normal ?_) | (refine inBlockS_ret ?_) | (refine inBlockS_hit rfl ?_) | (refine inBlockS_miss rfl ?_) | (refine lwp_block ?_) | (refine lwp_skip ?_) | (refine lwp_exit ?_) | (refine lwp_ret ?_) | (refine lwp_label ?_) | (refine lwp_region hC ⟨[], [], []⟩ (told0 _ _) rfl True.intro ?_) | (refine lwp_region hC ⟨[], [], []⟩ (told0 _ _) rfl (by ((try simp only [AllL, All, cd_p, cp_p, cv_p, InK, and_true, true_and]); all_goals ((repeat' (first | refine And.intro ?_ ?_ | intro _)) <;> first | omega | exact True.intro | assumption | (simp; done) | rfl | (simp_all; done) | (simp_all; omega)))) ?_)))
      rw [hmm]
      generalize hh2 : t.holes.getD m (0, 0) = h at *
      (refine lwp_region hC ⟨[(6, { i1 := some h.1.toNat, i2 := some h.2.toNat })], [], [(7, CfF_i ((t.smp.drop h.1.toNat).take (h.2.toNat - h.1.toNat)) [(0, some 5)])]⟩ (told1 _ (by rw [hP]; exact (calls_cons (CfF_s _ _ (by rw [List.length_take, List.length_drop]; omega)) calls_nil))) rfl ?_ ?_; rotate_left 1)
      · (repeat (first | (refine lwp_seq fun K hK => ?_) | (refine thenS_normal ?_; apply_assumption -exfalso -symm) | (refine thenS_exit ?_) | (refine thenS_ret ?_) | (refine inBlockS_normal ?_) | (refine inBlockS_ret ?_) | (refine inBlockS_hit rfl ?_) | (refine inBlockS_miss rfl ?_) | (refine lwp_block ?_) | (refine lwp_skip ?_) | (refine lwp_exit ?_) | (refine lwp_ret ?_) | (refine lwp_label ?_) | (refine lwp_region hC ⟨[], [], []⟩ (told0 _ _) rfl True.intro ?_) | (refine lwp_region hC ⟨[], [], []⟩ (told0 _ _) rfl (by ((try simp only [AllL, All, cd_p, cp_p, cv_p, InK, and_true, true_and]); all_goals ((repeat' (first | refine And.intro ?_ ?_ | intro _)) <;> first | omega | exact True.intro | assumption | (simp; done) | rfl | (simp_all; done) | (simp_all; omega)))) ?_)))
        (refine lwp_cond hC rfl (by first | exact True.intro | ((try simp only [AllL, All, cd_p, cp_p, cv_p, InK, and_true, true_and]); all_goals ((repeat' (first | refine And.intro ?_ ?_ | intro _)) <;> first | omega | exact True.intro | assumption | (simp; done) | rfl | (simp_all; done) | (simp_all; omega)))) (fun hb => ?_) (fun hb => ?_) <;> (try simp only [decide_eq_true_eq, decide_eq_false_iff_not, Bool.not_eq_true', Bool.not_eq_false', ne_eq, Decidable.not_not] at hb))
        · have e : holeR t = 1 := by rw [HR.out, HG.out, if_pos hb]
          (repeat (first | (refine lwp_seq fun K hK => ?_) | (refine thenS_normal ?_; apply_assumption -exfalso -symm) | (refine thenS_exit ?_) | (refine thenS_ret ?_) | (refine inBlockS_normal ?_) | (refine inBlockS_ret ?_) | (refine inBlockS_hit rfl ?_) | (refine inBlockS_miss rfl ?_) | (refine lwp_block ?_) | (refine lwp_skip ?_) | (refine lwp_exit ?_) | (refine lwp_ret ?_) | (refine lwp_label ?_) | (refine lwp_region hC ⟨[], [], []⟩ (told0 _ _) rfl True.intro ?_) | (refine lwp_region hC ⟨[], [], []⟩ (told0 _ _) rfl (by ((try simp only [AllL, All, cd_p, cp_p, cv_p, InK, and_true, true_and]); all_goals ((repeat' (first | refine And.intro ?_ ?_ | intro _)) <;> first | omega | exact True.intro | assumption | (simp; done) | rfl | (simp_all; done) | (simp_all; omega)))) ?_)))
          (refine end_intro (by first | exact .inr rfl | exact .inl rfl) [] rfl ?_)
          exact ⟨e, trivial⟩
        · have hg := HG.out
          rw [if_neg (by rw [hb]; decide)] at hg
          have HG := Lib.hid hg
          clear hg
          (repeat (first | (refine lwp_seq fun K hK => ?_) | (refine thenS_normal ?_; apply_assumption -exfalso -symm) | (refine thenS_exit ?_) | (refine thenS_ret ?_) | (refine inBlockS_normal ?_) | (refine inBlockS_ret ?_) | (refine inBlockS_hit rfl ?_) | (refine inBlockS_miss rfl ?_) | (refine lwp_block ?_) | (refine lwp_skip ?_) | (refine lwp_exit ?_) | (refine lwp_ret ?_) | (refine lwp_label ?_) | (refine lwp_region hC ⟨[], [], []⟩ (told0 _ _) rfl True.intro ?_) | (refine lwp_region hC ⟨[], [], []⟩ (told0 _ _) rfl (by ((try simp only [AllL, All, cd_p, cp_p, cv_p, InK, and_true, true_and]); all_goals ((repeat' (first | refine And.intro ?_ ?_ | intro _)) <;> first | omega | exact True.intro | assumption | (simp; done) | rfl | (simp_all; done) | (simp_all; omega)))) ?_)))
          refine thenS_normal ⟨m + 1, ?_, ?_, sub_intro hm [(0, some 0), (1, some 1), (2, some 2)] rfl ?_⟩
          · exact ⟨by omega, HG.out⟩
          · omega
          · ((try simp only [AllL, All, cd_p, cp_p, cv_p, InK, and_true, true_and]); all_goals ((repeat' (first | refine And.intro ?_ ?_ | intro _)) <;> first | omega | exact True.intro | assumption | (simp; done) | rfl | (simp_all; done) | (simp_all; omega)))
      · have hle : h.2.toNat ≤ t.smp.length := by omega
        have hc := fl_slice t.smp h.1.toNat h.2.toNat hle
        simp only [AllL, All, cd_p, cp_p, cv_p]
        (repeat' refine And.intro ?_ ?_) <;> first | trivial | rfl | omega | exact hc.symm | exact hc | (simp; omega)
    · have e : holeR t = 0 := by
        rw [HR.out, HG.out, List.drop_of_length_le (by omega)]; rfl
      (repeat (first | (refine lwp_seq fun K hK => ?_) | (refine thenS_normal ?_; apply_assumption -exfalso -symm) | (refine thenS_exit ?_) | (refine thenS_ret ?_) | (refine inBlockS_normal ?_) | (refine inBlockS_ret ?_) | (refine inBlockS_hit rfl ?_) | (refine inBlockS_miss rfl ?_) | (refine lwp_block ?_) | (refine lwp_skip ?_) | (refine lwp_exit ?_) | (refine lwp_ret ?_) | (refine lwp_label ?_) | (refine lwp_region hC ⟨[], [], []⟩ (told0 _ _) rfl True.intro ?_) | (refine lwp_region hC ⟨[], [], []⟩ (told0 _ _) rfl (by ((try simp only [AllL, All, cd_p, cp_p, cv_p, InK, and_true, true_and]); all_goals ((repeat' (first | refine And.intro ?_ ?_ | intro _)) <;> first | omega | exact True.intro | assumption | (simp; done) | rfl | (simp_all; done) | (simp_all; omega)))) ?_)))
      (refine end_intro (by first | exact .inr rfl | exact .inl rfl) [] rfl ?_)
      exact ⟨e, trivial⟩

def SRun_i (t : Rn) (σ : Ren) : Inst := { f := 113, hin := rnIn t, args := [rnA 0 1 t], hout := [], ret := i64 (runE t), σ := σ }
theorem runE_eq (t : Rn) : runE t = if headR t ≠ 0 then headR t else if bodyR t ≠ 0 then bodyR t else holeR t := rfl
theorem headR_ok {t : Rn} (h : headR t = 0) : nameOk t.name = true ∧ (0 ≤ t.first ∧ t.first ≤ 100000000) ∧ t.smp.length ≤ 4096 := by
  unfold headR at h
  rw [firstS_eq] at h
  have h1 := h (whenS (!nameOk t.name) 8) (by simp)
  have h2 := h (withinS t.first 0 100000000) (by simp)
  have h3 := h (whenS (decide (4096 < (t.smp.length : Int))) 5) (by simp)
  rw [whenS_eq _ _ (by decide)] at h1 h3
  rw [withinS_eq] at h2
  simp at h1 h3
  exact ⟨h1, h2, by omega⟩
set_option maxRecDepth 20000 in
set_option maxHeartbeats 4000000 in
theorem SRun_s (t : Rn) (σ : Ren) (hv : t.smp.length ≤ 100000) (hl : t.holes.length ≤ 100000) : (SRun_i t σ).ok Tryz.prog := by
  have HR := Lib.hid (runE_eq t)
  unfold SRun_i Inst.ok; dsimp only; refine spec_of_body (tys := tys) 2 Tryz.func113 (by kernel_rfl) rfl tys_ok rfl (Nat.le_of_ble_eq_true rfl) (fun _ _ h => (by cases h)) fun F hP hm hC hrd => ?_; conv => whnf
  repeat first | refine lwp_seq fun K hK => ?_ | ((with_reducible refine thenS_normal ?_); apply_assumption -exfalso -symm) | refine thenS_exit ?_ | refine thenS_ret ?_ | refine inBlockS_normal ?_ | refine inBlockS_ret ?_ | refine inBlockS_hit rfl ?_ | refine inBlockS_miss rfl ?_ | refine lwp_block ?_ | refine lwp_skip ?_ | refine lwp_exit ?_ | refine lwp_ret ?_ | refine lwp_label ?_ | refine lwp_region hC ⟨[], [], []⟩ (told0 _ _) rfl True.intro ?_
  (refine lwp_drawn hC (by rw [hP]; exact mixed) ⟨[], [], [(2, SName_i t.name), (4, SWhen_i (!nameOk t.name) 8), (7, SWithin_i t.first 0 100000000), (12, SWhen_i (decide (4096 < (t.smp.length : Int))) 5), (14, SFirst_i [whenS (!nameOk t.name) 8, withinS t.first 0 100000000, whenS (decide (4096 < (t.smp.length : Int))) 5] [(0, some 3)])]⟩ (told1 _ (by rw [hP]; exact (calls_cons (SName_s _) (calls_cons (SWhen_s _ _) (calls_cons (SWithin_s _ _ _) (calls_cons (SWhen_s _ _) (calls_cons (SFirst_s _ _ (by simp)) calls_nil))))))) [0, 1, 3, 7, 15, 0, 32, 127, 0, 256, 768, 1792, 4095, 8191, 16383, 32767] 12 rfl ?_ ?_; rotate_left 1)
  · (repeat (first | (refine lwp_seq fun K hK => ?_) | (refine thenS_normal ?_; apply_assumption -exfalso -symm) | (refine thenS_exit ?_) | (refine thenS_ret ?_) | (refine inBlockS_normal ?_) | (refine inBlockS_ret ?_) | (refine inBlockS_hit rfl ?_) | (refine inBlockS_miss rfl ?_) | (refine lwp_block ?_) | (refine lwp_skip ?_) | (refine lwp_exit ?_) | (refine lwp_ret ?_) | (refine lwp_label ?_) | (refine lwp_region hC ⟨[], [], []⟩ (told0 _ _) rfl True.intro ?_) | (refine lwp_region hC ⟨[], [], []⟩ (told0 _ _) rfl (by ((try simp only [AllL, All, cd_p, cp_p, cv_p, InK, and_true, true_and]); all_goals ((repeat' (first | refine And.intro ?_ ?_ | intro _)) <;> first | omega | exact True.intro | assumption | (simp; done) | rfl | (simp_all; done) | (simp_all; omega)))) ?_)))
    (refine lwp_cond hC rfl (by first | exact True.intro | ((try simp only [AllL, All, cd_p, cp_p, cv_p, InK, and_true, true_and]); all_goals ((repeat' (first | refine And.intro ?_ ?_ | intro _)) <;> first | omega | exact True.intro | assumption | (simp; done) | rfl | (simp_all; done) | (simp_all; omega)))) (fun hb => ?_) (fun hb => ?_) <;> (try simp only [decide_eq_true_eq, decide_eq_false_iff_not, Bool.not_eq_true', Bool.not_eq_false', ne_eq, Decidable.not_not] at hb))
    · have e : runE t = firstS [whenS (!nameOk t.name) 8, withinS t.first 0 100000000, whenS (decide (4096 < (t.smp.length : Int))) 5] := by
        have hb2 : headR t ≠ 0 := hb
        rw [HR.out, if_pos hb2]; rfl
      (repeat (first | (refine lwp_seq fun K hK => ?_) | (refine thenS_normal ?_; apply_assumption -exfalso -symm) | (refine thenS_exit ?_) | (refine thenS_ret ?_) | (refine inBlockS_normal ?_) | (refine inBlockS_ret ?_) | (refine inBlockS_hit rfl ?_) | (refine inBlockS_miss rfl ?_) | (refine lwp_block ?_) | (refine lwp_skip ?_) | (refine lwp_exit ?_) | (refine lwp_ret ?_) | (refine lwp_label ?_) | (refine lwp_region hC ⟨[], [], []⟩ (told0 _ _) rfl True.intro ?_) | (refine lwp_region hC ⟨[], [], []⟩ (told0 _ _) rfl (by ((try simp only [AllL, All, cd_p, cp_p, cv_p, InK, and_true, true_and]); all_goals ((repeat' (first | refine And.intro ?_ ?_ | intro _)) <;> first | omega | exact True.intro | assumption | (simp; done) | rfl | (simp_all; done) | (simp_all; omega)))) ?_)))
      (refine end_intro (by first | exact .inr rfl | exact .inl rfl) [] rfl ?_)
      exact ⟨e, trivial⟩
    · have hb2 : headR t = 0 := by
        have h3 : ¬ headR t ≠ 0 := fun h => h hb
        exact Decidable.of_not_not h3
      have hr := HR.out
      rw [if_neg (by rw [hb2]; decide)] at hr
      have HR := Lib.hid hr
      obtain ⟨_, ⟨f0, f1⟩, f2⟩ := headR_ok hb2
      clear hr hb hb2
      repeat first | refine lwp_seq fun K hK => ?_ | ((with_reducible refine thenS_normal ?_); apply_assumption -exfalso -symm) | refine thenS_exit ?_ | refine thenS_ret ?_ | refine inBlockS_normal ?_ | refine inBlockS_ret ?_ | refine inBlockS_hit rfl ?_ | refine inBlockS_miss rfl ?_ | refine lwp_block ?_ | refine lwp_skip ?_ | refine lwp_exit ?_ | refine lwp_ret ?_ | refine lwp_label ?_ | refine lwp_region hC ⟨[], [], []⟩ (told0 _ _) rfl True.intro ?_
      (refine lwp_drawn hC (by rw [hP]; exact mixed) ⟨[], [], [(2, FMapped_i t.smp [(0, some 0)]), (3, SFirst_i (t.smp.map partS) [(0, some 4)]), (11, SWhen_i (decide (100000000 < t.first + (t.smp.length : Int))) 4), (13, SFirst_i [firstS (t.smp.map partS), whenS (decide (100000000 < t.first + (t.smp.length : Int))) 4] [(0, some 5)])]⟩ (told1 _ (by rw [hP]; exact (calls_cons (FMapped_s _ _ hv) (calls_cons (SFirst_s _ _ (by rw [List.length_map]; omega)) (calls_cons (SWhen_s _ _) (calls_cons (SFirst_s _ _ (by simp)) calls_nil)))))) [0, 1, 3, 7, 0, 16, 0, 64, 192, 496, 1008, 2047, 4095, 8191, 16383] 11 rfl ?_ ?_; rotate_left 1)
      · (repeat (first | (refine lwp_seq fun K hK => ?_) | (refine thenS_normal ?_; apply_assumption -exfalso -symm) | (refine thenS_exit ?_) | (refine thenS_ret ?_) | (refine inBlockS_normal ?_) | (refine inBlockS_ret ?_) | (refine inBlockS_hit rfl ?_) | (refine inBlockS_miss rfl ?_) | (refine lwp_block ?_) | (refine lwp_skip ?_) | (refine lwp_exit ?_) | (refine lwp_ret ?_) | (refine lwp_label ?_) | (refine lwp_region hC ⟨[], [], []⟩ (told0 _ _) rfl True.intro ?_) | (refine lwp_region hC ⟨[], [], []⟩ (told0 _ _) rfl (by ((try simp only [AllL, All, cd_p, cp_p, cv_p, InK, and_true, true_and]); all_goals ((repeat' (first | refine And.intro ?_ ?_ | intro _)) <;> first | omega | exact True.intro | assumption | (simp; done) | rfl | (simp_all; done) | (simp_all; omega)))) ?_)))
        (refine lwp_cond hC rfl (by first | exact True.intro | ((try simp only [AllL, All, cd_p, cp_p, cv_p, InK, and_true, true_and]); all_goals ((repeat' (first | refine And.intro ?_ ?_ | intro _)) <;> first | omega | exact True.intro | assumption | (simp; done) | rfl | (simp_all; done) | (simp_all; omega)))) (fun hb => ?_) (fun hb => ?_) <;> (try simp only [decide_eq_true_eq, decide_eq_false_iff_not, Bool.not_eq_true', Bool.not_eq_false', ne_eq, Decidable.not_not] at hb))
        · have e : runE t = firstS [firstS (t.smp.map partS), whenS (decide (100000000 < t.first + (t.smp.length : Int))) 4] := by
            have hb2 : bodyR t ≠ 0 := hb
            rw [HR.out, if_pos hb2]; rfl
          (repeat (first | (refine lwp_seq fun K hK => ?_) | (refine thenS_normal ?_; apply_assumption -exfalso -symm) | (refine thenS_exit ?_) | (refine thenS_ret ?_) | (refine inBlockS_normal ?_) | (refine inBlockS_ret ?_) | (refine inBlockS_hit rfl ?_) | (refine inBlockS_miss rfl ?_) | (refine lwp_block ?_) | (refine lwp_skip ?_) | (refine lwp_exit ?_) | (refine lwp_ret ?_) | (refine lwp_label ?_) | (refine lwp_region hC ⟨[], [], []⟩ (told0 _ _) rfl True.intro ?_) | (refine lwp_region hC ⟨[], [], []⟩ (told0 _ _) rfl (by ((try simp only [AllL, All, cd_p, cp_p, cv_p, InK, and_true, true_and]); all_goals ((repeat' (first | refine And.intro ?_ ?_ | intro _)) <;> first | omega | exact True.intro | assumption | (simp; done) | rfl | (simp_all; done) | (simp_all; omega)))) ?_)))
          (refine end_intro (by first | exact .inr rfl | exact .inl rfl) [] rfl ?_)
          exact ⟨e, trivial⟩
        · have e : runE t = holeR t := by
            have h3 : ¬ bodyR t ≠ 0 := fun h => h hb
            rw [HR.out, if_neg h3]
          clear hb HR
          repeat first | refine lwp_seq fun K hK => ?_ | ((with_reducible refine thenS_normal ?_); apply_assumption -exfalso -symm) | refine thenS_exit ?_ | refine thenS_ret ?_ | refine inBlockS_normal ?_ | refine inBlockS_ret ?_ | refine inBlockS_hit rfl ?_ | refine inBlockS_miss rfl ?_ | refine lwp_block ?_ | refine lwp_skip ?_ | refine lwp_exit ?_ | refine lwp_ret ?_ | refine lwp_label ?_ | refine lwp_region hC ⟨[], [], []⟩ (told0 _ _) rfl True.intro ?_
          (refine lwp_region hC ⟨[], [], [(1, SHoles_i t [(0, some 0), (1, some 1)])]⟩ (told1 _ (by rw [hP]; exact (calls_cons (SHoles_s _ _ hv hl) calls_nil))) rfl ?_ ?_; rotate_left 1)
          · (repeat (first | (refine lwp_seq fun K hK => ?_) | (refine thenS_normal ?_; apply_assumption -exfalso -symm) | (refine thenS_exit ?_) | (refine thenS_ret ?_) | (refine inBlockS_normal ?_) | (refine inBlockS_ret ?_) | (refine inBlockS_hit rfl ?_) | (refine inBlockS_miss rfl ?_) | (refine lwp_block ?_) | (refine lwp_skip ?_) | (refine lwp_exit ?_) | (refine lwp_ret ?_) | (refine lwp_label ?_) | (refine lwp_region hC ⟨[], [], []⟩ (told0 _ _) rfl True.intro ?_) | (refine lwp_region hC ⟨[], [], []⟩ (told0 _ _) rfl (by ((try simp only [AllL, All, cd_p, cp_p, cv_p, InK, and_true, true_and]); all_goals ((repeat' (first | refine And.intro ?_ ?_ | intro _)) <;> first | omega | exact True.intro | assumption | (simp; done) | rfl | (simp_all; done) | (simp_all; omega)))) ?_)))
            (refine end_intro (by first | exact .inr rfl | exact .inl rfl) [] rfl ?_)
            exact ⟨e, trivial⟩
          · ((try simp only [AllL, All, cd_p, cp_p, cv_p, InK, and_true, true_and]); all_goals ((repeat' (first | refine And.intro ?_ ?_ | intro _)) <;> first | omega | exact True.intro | assumption | (simp; done) | rfl | (simp_all; done) | (simp_all; omega)))
      · simp only [AllL, All, cd_p, cp_p, cv_p, InK]
        (repeat' refine And.intro ?_ ?_) <;> first | trivial | rfl | omega | simp
  · ((try simp only [AllL, All, cd_p, cp_p, cv_p, InK, and_true, true_and]); all_goals ((repeat' (first | refine And.intro ?_ ?_ | intro _)) <;> first | omega | exact True.intro | assumption | (simp; done) | rfl | (simp_all; done) | (simp_all; omega)))

end Go.Proofs.YtoopgdchiljmiaaGreatDoor
