/- Chapter 5: samples' integers are small; runs apart. -/
import Derived.Test.YtoopgdchiljmiaaGreatDoorHi
set_option linter.unusedVariables false
set_option linter.unusedSimpArgs false
namespace Go.Proofs.YtoopgdchiljmiaaGreatDoor
open Go.RowKit Go.Sym

theorem zcut_half (neg : Bool) (n d : Nat) (h : 1 ≤ d) : Ieee.Toward.cut .zero neg n d ≤ n / 2 := by
  unfold Ieee.Toward.cut
  simp only [Bool.toNat_false, Nat.add_zero, Nat.one_shiftLeft]
  have h1 : 2 ^ 1 ≤ 2 ^ min d (n.log2 + 2) := Nat.pow_le_pow_right (by decide) (by omega)
  exact Nat.div_le_div_left h1 (by decide)
theorem cut_small {b : Nat} {s : Bool} {m : Nat} {p : Int} (h : Ieee.Format.read FloatKind.f32.format b = .number s m p) (h1 : m < 16777216) (h2 : p ≤ -1) : -8388608 < (fltToInt .f32 b .i64).getD 0 ∧ (fltToInt .f32 b .i64).getD 0 < 8388608 := by
  unfold fltToInt FloatKind.decode
  rw [h]
  have e : p.toNat = 0 := by omega
  simp only [Ieee.Datum.toInt, Ieee.Datum.integral, e, Nat.shiftLeft_zero]
  have k := zcut_half s m (-p).toNat (by omega)
  have k2 := sgn_le s (Ieee.Toward.cut .zero s m (-p).toNat) 0
  rw [Nat.shiftLeft_zero] at k2
  have a1 : IntKind.i64.min = -9223372036854775808 := by decide
  have a2 : IntKind.i64.max = 9223372036854775807 := by decide
  rw [if_pos (by rw [a1, a2]; omega)]
  simp only [Option.getD_some]
  omega
theorem times16b {b : Nat} (h : fin b = true) (h1 : (FloatKind.f32.format.order b (FloatKind.f32.nearest (-1024)) == some .lt) = false) (h2 : (FloatKind.f32.format.order b (FloatKind.f32.nearest 1024) == some .gt) = false) :
    ∃ r, FloatKind.f32.format.mul b 1098907648 = some r ∧ (-8388608 < (fltToInt .f32 r .i64).getD 0 ∧ (fltToInt .f32 r .i64).getD 0 < 8388608) := by
  obtain ⟨s, m, p, e⟩ := fin_iff.1 h
  obtain ⟨a1, a2, a3, a4⟩ := read_shape e
  unfold Ieee.Format.order at h1 h2
  rw [e, read_m1024] at h1
  rw [e, read_1024] at h2
  simp only [Ieee.Datum.order] at h1 h2
  have hp : p ≤ -13 := by
    refine Int.not_lt.1 fun hlt => ?_
    have hm := a4 (by omega)
    have hb : min p (-13) = -13 := by omega
    rw [hb] at h1 h2
    have hu : ((-13 : Int) - -13).toNat = 0 := by decide
    rw [hu] at h1 h2
    obtain ⟨u, hu2⟩ : ∃ u : Nat, (p - -13).toNat = u + 1 := ⟨(p - -13).toNat - 1, by omega⟩
    rw [hu2] at h1 h2
    have hg : 8388608 < m <<< (u + 1) := by
      rw [Nat.shiftLeft_eq]
      have : 2 ≤ 2 ^ (u + 1) := by
        have := Nat.two_pow_pos u
        rw [Nat.pow_succ]; omega
      have := Nat.mul_le_mul hm this
      omega
    have hz : 8388608 <<< 0 = 8388608 := by decide
    cases s with
    | false =>
      rw [beq_eq_false_iff_ne] at h2
      refine h2 ?_
      rw [Int.compare_eq_gt.2]
      simp only [Ieee.signed, Bool.false_eq_true, if_false, hz]
      omega
    | true =>
      rw [beq_eq_false_iff_ne] at h1
      refine h1 ?_
      rw [Int.compare_eq_lt.2]
      simp only [Ieee.signed, if_true, hz]
      omega
  unfold Ieee.Format.mul
  rw [e, read_16]
  simp only [Ieee.Datum.product, Option.map_some, Ieee.Format.write]
  refine ⟨_, rfl, ?_⟩
  by_cases h0 : m * 8388608 = 0
  · rw [h0]
    have : Ieee.Format.nearest FloatKind.f32.format (s ^^ false) 0 (p + -19) = Ieee.Format.word FloatKind.f32.format (s ^^ false) 0 := rfl
    rw [this]
    obtain ⟨m', p', e', b1, b2⟩ := read_rung (s ^^ false) (r := 0) (by omega)
    exact cut_small e' b1 b2
  · have hl : (m * 8388608).log2 ≤ 46 := by
      have := (Nat.log2_lt (n := m * 8388608) (k := 47) h0).2 (by omega)
      omega
    obtain ⟨r, hr, er⟩ := nearest_rung (s ^^ false) (m * 8388608) (p + -19) h0 (by omega)
    rw [er]
    obtain ⟨m', p', e', b1, b2⟩ := read_rung (s ^^ false) hr
    exact cut_small e' b1 b2
theorem part_small {b : Nat} (h : partS b = 0) : -8388608 < cutW (x16 b) ∧ cutW (x16 b) < 8388608 := by
  unfold partS at h
  split at h
  · cases h
  · rename_i hf
    split at h
    · cases h
    · rename_i hr
      have hf : fin b = true := by cases e : fin b <;> simp_all
      simp only [Bool.or_eq_true, not_or, Bool.not_eq_true] at hr
      obtain ⟨r, h1, h2⟩ := times16b hf hr.1 hr.2
      unfold x16 cutW
      rw [h1]
      exact h2
theorem lv_small {t : Rn} (h : ∀ b ∈ t.smp, partS b = 0) (p : Int) : -8388608 < lvS t p ∧ lvS t p < 8388608 := by
  unfold lvS
  split
  · rename_i hb
    unfold lvB at hb
    simp only [Bool.and_eq_true, decide_eq_true_eq] at hb
    have hlt : (p - t.first).toNat < t.smp.length := by omega
    refine part_small ?_
    rw [List.getD_eq_getElem?_getD, List.getElem?_eq_getElem hlt]
    exact h _ (List.getElem_mem hlt)
  · omega

/-- Where two runs are apart. -/
def apB (a b : Rn) (L p : Int) : Bool := lvB a p && lvB b p && decide (L < max (lvS a p - lvS b p) (0 - (lvS a p - lvS b p)))
def apL (a b : Rn) (L : Int) : Nat → List (Int × Int)
  | 0 => []
  | i + 1 => if apB a b L (a.first + i) = true then lngS (apL a b L i) (a.first + i) else apL a b L i
theorem apL_len (a b : Rn) (L : Int) : ∀ i, (apL a b L i).length ≤ i
  | 0 => Nat.le_refl _
  | i + 1 => by
    have h1 := apL_len a b L i
    have h2 := lngS_len (apL a b L i) (a.first + i)
    simp only [apL]
    split <;> omega
/-- A valid run's numbers. -/
structure VR (t : Rn) : Prop where
  f : 0 ≤ t.first ∧ t.first ≤ 100000000
  n : t.smp.length ≤ 4096
  h : t.holes.length ≤ 100000
  p : ∀ b ∈ t.smp, partS b = 0
  ok : HolesOk t.smp.length t.holes

def RApart_i (a b : Rn) (lim : Nat) (σ : Ren) : Inst := { f := 73, hin := [(0, .ro a.smp.length 1 (flC a.smp)), (1, .ro a.holes.length 2 (spC a.holes)), (2, .ro b.smp.length 1 (flC b.smp)), (3, .ro b.holes.length 2 (spC b.holes))], args := [rnA 0 1 a, rnA 2 3 b, fl lim], hout := [(4, .row 168 (apL a b (cutW (x16 lim)) a.smp.length).length 2 (spC (apL a b (cutW (x16 lim)) a.smp.length)))], ret := .sl 4 (apL a b (cutW (x16 lim)) a.smp.length).length, σ := σ }
set_option maxRecDepth 20000 in
set_option maxHeartbeats 4000000 in
theorem RApart_s (a b : Rn) (lim : Nat) (σ : Ren) (ha : VR a) (hb' : VR b) (hl : partS lim = 0) : (RApart_i a b lim σ).ok Tryz.prog := by
  have hL := part_small hl
  generalize hLL : cutW (x16 lim) = L at hL
  have hla := ha.n
  have hfa := ha.f
  unfold RApart_i Inst.ok; dsimp only; refine spec_of_body (tys := tys) 4 Tryz.func73 (by kernel_rfl) rfl tys_ok rfl (Nat.le_of_ble_eq_true rfl) (fun _ _ h => (by cases h)) fun F hP hm hC hrd => ?_; conv => whnf
  (repeat (first | (refine lwp_seq fun K hK => ?_) | (refine thenS_normal ?_; apply_assumption -exfalso -symm) | (refine thenS_exit ?_) | (refine thenS_ret ?_) | (refine inBlockS_normal ?_) | (refine inBlockS_ret ?_) | (refine inBlockS_hit rfl ?_) | (refine inBlockS_miss rfl ?_) | (refine lwp_block ?_) | (refine lwp_skip ?_) | (refine lwp_exit ?_) | (refine lwp_ret ?_) | (refine lwp_label ?_) | (refine lwp_region hC ⟨[], [], []⟩ (told0 _ _) rfl True.intro ?_) | (refine lwp_region hC ⟨[], [], []⟩ (told0 _ _) rfl (by ((try simp only [AllL, All, cd_p, cp_p, cv_p, InK, and_true, true_and]); all_goals ((repeat' (first | refine And.intro ?_ ?_ | intro _)) <;> first | omega | exact True.intro | assumption | (simp; done) | rfl | (simp_all; done) | (simp_all; omega)))) ?_)))
  rw [hLL]
  refine lwp_loop (fun i : Nat => ⟨[(8, i64 i), (2, fl lim), (3, .ptr 4 0 0 0), (4, .ptr 5 0 0 0), (7, .sl 6 (apL a b L i).length)], [(6, .row 168 (apL a b L i).length 2 (spC (apL a b L i))), (5, .blk 69 [.lit (.string b.name), i64 b.first, .sl 2 b.smp.length, .sl 3 b.holes.length]), (4, .blk 69 [.lit (.string a.name), i64 a.first, .sl 0 a.smp.length, .sl 1 a.holes.length]), (0, .ro a.smp.length 1 (flC a.smp)), (1, .ro a.holes.length 2 (spC a.holes)), (2, .ro b.smp.length 1 (flC b.smp)), (3, .ro b.holes.length 2 (spC b.holes))], 7⟩) (fun i => i ≤ a.smp.length) (fun i => a.smp.length - i) 0 ⟨?_, sub_intro hm [(0, some 0), (1, some 1), (2, some 2), (3, some 3), (4, some 4), (5, some 5), (6, none)] rfl ?_⟩ ?_
  · exact Nat.zero_le _
  · unfold apL
    ((try simp only [AllL, All, cd_p, cp_p, cv_p, InK, and_true, true_and]); all_goals ((repeat' (first | refine And.intro ?_ ?_ | intro _)) <;> first | omega | exact True.intro | assumption | (simp; done) | rfl | (simp_all; done) | (simp_all; omega)))
  · rintro i hi
    have hAl := apL_len a b L i
    have hstep : apL a b L (i + 1) = if apB a b L (a.first + i) = true then lngS (apL a b L i) (a.first + i) else apL a b L i := rfl
    generalize hA : apL a b L i = A at hAl hstep ⊢
    have sa := lv_small ha.p (a.first + i)
    have sb := lv_small hb'.p (a.first + i)
    (repeat (first | (refine lwp_seq fun K hK => ?_) | (refine thenS_normal ?_; apply_assumption -exfalso -symm) | (refine thenS_exit ?_) | (refine thenS_ret ?_) | (refine inBlockS_normal ?_) | (refine inBlockS_ret ?_) | (refine inBlockS_hit rfl ?_) | (refine inBlockS_miss rfl ?_) | (refine lwp_block ?_) | (refine lwp_skip ?_) | (refine lwp_exit ?_) | (refine lwp_ret ?_) | (refine lwp_label ?_) | (refine lwp_region hC ⟨[], [], []⟩ (told0 _ _) rfl True.intro ?_) | (refine lwp_region hC ⟨[], [], []⟩ (told0 _ _) rfl (by ((try simp only [AllL, All, cd_p, cp_p, cv_p, InK, and_true, true_and]); all_goals ((repeat' (first | refine And.intro ?_ ?_ | intro _)) <;> first | omega | exact True.intro | assumption | (simp; done) | rfl | (simp_all; done) | (simp_all; omega)))) ?_)))
    (refine lwp_cond hC rfl (by first | exact True.intro | ((try simp only [AllL, All, cd_p, cp_p, cv_p, InK, and_true, true_and]); all_goals ((repeat' (first | refine And.intro ?_ ?_ | intro _)) <;> first | omega | exact True.intro | assumption | (simp; done) | rfl | (simp_all; done) | (simp_all; omega)))) (fun hb => ?_) (fun hb => ?_) <;> (try simp only [decide_eq_true_eq, decide_eq_false_iff_not, Bool.not_eq_true', Bool.not_eq_false', ne_eq, Decidable.not_not] at hb))
    · have hil : i < a.smp.length := by omega
      clear hb
      (repeat (first | (refine lwp_seq fun K hK => ?_) | (refine thenS_normal ?_; apply_assumption -exfalso -symm) | (refine thenS_exit ?_) | (refine thenS_ret ?_) | (refine inBlockS_normal ?_) | (refine inBlockS_ret ?_) | (refine inBlockS_hit rfl ?_) | (refine inBlockS_miss rfl ?_) | (refine lwp_block ?_) | (refine lwp_skip ?_) | (refine lwp_exit ?_) | (refine lwp_ret ?_) | (refine lwp_label ?_) | (refine lwp_region hC ⟨[], [], []⟩ (told0 _ _) rfl True.intro ?_) | (refine lwp_region hC ⟨[], [], []⟩ (told0 _ _) rfl (by ((try simp only [AllL, All, cd_p, cp_p, cv_p, InK, and_true, true_and]); all_goals ((repeat' (first | refine And.intro ?_ ?_ | intro _)) <;> first | omega | exact True.intro | assumption | (simp; done) | rfl | (simp_all; done) | (simp_all; omega)))) ?_)))
      (refine lwp_region hC ⟨[], [], [(2, Lv_i a (a.first + i) [(0, some 0), (1, some 1)])]⟩ (told1 _ (by rw [hP]; exact (calls_cons (Lv_s _ _ _ (by omega) ha.h ha.f (by omega) ha.p) calls_nil))) rfl ?_ ?_; rotate_left 1)
      · repeat first | refine lwp_seq fun K hK => ?_ | ((with_reducible refine thenS_normal ?_); apply_assumption -exfalso -symm) | refine thenS_exit ?_ | refine thenS_ret ?_ | refine inBlockS_normal ?_ | refine inBlockS_ret ?_ | refine inBlockS_hit rfl ?_ | refine inBlockS_miss rfl ?_ | refine lwp_block ?_ | refine lwp_skip ?_ | refine lwp_exit ?_ | refine lwp_ret ?_ | refine lwp_label ?_ | refine lwp_region hC ⟨[], [], []⟩ (told0 _ _) rfl True.intro ?_
        (refine lwp_region hC ⟨[], [], [(2, Lv_i b (a.first + i) [(0, some 2), (1, some 3)])]⟩ (told1 _ (by rw [hP]; exact (calls_cons (Lv_s _ _ _ (by have := hb'.n; omega) hb'.h hb'.f (by omega) hb'.p) calls_nil))) rfl ?_ ?_; rotate_left 1)
        · repeat first | refine lwp_seq fun K hK => ?_ | ((with_reducible refine thenS_normal ?_); apply_assumption -exfalso -symm) | refine thenS_exit ?_ | refine thenS_ret ?_ | refine inBlockS_normal ?_ | refine inBlockS_ret ?_ | refine inBlockS_hit rfl ?_ | refine inBlockS_miss rfl ?_ | refine lwp_block ?_ | refine lwp_skip ?_ | refine lwp_exit ?_ | refine lwp_ret ?_ | refine lwp_label ?_ | refine lwp_region hC ⟨[], [], []⟩ (told0 _ _) rfl True.intro ?_
          cases k1 : lvB a (a.first + i) with
          | false =>
            have hno : apB a b L (a.first + i) = false := by unfold apB; rw [k1]; rfl
            (refine lwp_region hC ⟨[(2, { b := some true }), (6, { b := some true }), (7, { g := some false }), (8, { g := some false }), (9, { g := some false }), (10, { g := some false }), (11, { g := some false }), (12, { g := some false }), (13, { g := some false })], [], []⟩ (told0 _ _) rfl ?_ ?_; rotate_left 1)
            · (repeat (first | (refine lwp_seq fun K hK => ?_) | (refine thenS_normal ?_; apply_assumption -exfalso -symm) | (refine thenS_exit ?_) | (refine thenS_ret ?_) | (refine inBlockS_normal ?_) | (refine inBlockS_ret ?_) | (refine inBlockS_hit rfl ?_) | (refine inBlockS_miss rfl ?_) | (refine lwp_block ?_) | (refine lwp_skip ?_) | (refine lwp_exit ?_) | (refine lwp_ret ?_) | (refine lwp_label ?_) | (refine lwp_region hC ⟨[], [], []⟩ (told0 _ _) rfl True.intro ?_) | (refine lwp_region hC ⟨[], [], []⟩ (told0 _ _) rfl (by ((try simp only [AllL, All, cd_p, cp_p, cv_p, InK, and_true, true_and]); all_goals ((repeat' (first | refine And.intro ?_ ?_ | intro _)) <;> first | omega | exact True.intro | assumption | (simp; done) | rfl | (simp_all; done) | (simp_all; omega)))) ?_)))
              (refine lwp_cond hC rfl (by first | exact True.intro | ((try simp only [AllL, All, cd_p, cp_p, cv_p, InK, and_true, true_and]); all_goals ((repeat' (first | refine And.intro ?_ ?_ | intro _)) <;> first | omega | exact True.intro | assumption | (simp; done) | rfl | (simp_all; done) | (simp_all; omega)))) (fun hb => ?_) (fun hb => ?_) <;> (try simp only [decide_eq_true_eq, decide_eq_false_iff_not, Bool.not_eq_true', Bool.not_eq_false', ne_eq, Decidable.not_not] at hb))
              · rw [hno, if_neg (by decide)] at hstep
                (repeat (first | (refine lwp_seq fun K hK => ?_) | (refine thenS_normal ?_; apply_assumption -exfalso -symm) | (refine thenS_exit ?_) | (refine thenS_ret ?_) | (refine inBlockS_normal ?_) | (refine inBlockS_ret ?_) | (refine inBlockS_hit rfl ?_) | (refine inBlockS_miss rfl ?_) | (refine lwp_block ?_) | (refine lwp_skip ?_) | (refine lwp_exit ?_) | (refine lwp_ret ?_) | (refine lwp_label ?_) | (refine lwp_region hC ⟨[], [], []⟩ (told0 _ _) rfl True.intro ?_) | (refine lwp_region hC ⟨[], [], []⟩ (told0 _ _) rfl (by ((try simp only [AllL, All, cd_p, cp_p, cv_p, InK, and_true, true_and]); all_goals ((repeat' (first | refine And.intro ?_ ?_ | intro _)) <;> first | omega | exact True.intro | assumption | (simp; done) | rfl | (simp_all; done) | (simp_all; omega)))) ?_)))
                refine thenS_normal ⟨i + 1, ?_, ?_, sub_intro hm [(0, some 0), (1, some 1), (2, some 2), (3, some 3), (4, some 4), (5, some 5), (6, some 6)] rfl ?_⟩
                · omega
                · omega
                · rw [hstep]
                  ((try simp only [AllL, All, cd_p, cp_p, cv_p, InK, and_true, true_and]); all_goals ((repeat' (first | refine And.intro ?_ ?_ | intro _)) <;> first | omega | exact True.intro | assumption | (simp; done) | rfl | (simp_all; done) | (simp_all; omega)))
              · exact absurd hb (by decide)
            · ((try simp only [AllL, All, cd_p, cp_p, cv_p, InK, and_true, true_and]); all_goals ((repeat' (first | refine And.intro ?_ ?_ | intro _)) <;> first | omega | exact True.intro | assumption | (simp; done) | rfl | (simp_all; done) | (simp_all; omega)))
          | true =>
            cases k2 : lvB b (a.first + i) with
            | false =>
              have hno : apB a b L (a.first + i) = false := by unfold apB; rw [k1, k2]; rfl
              (refine lwp_region hC ⟨[(2, { b := some false }), (6, { b := some true }), (7, { g := some false }), (8, { g := some false }), (9, { g := some false }), (10, { g := some false }), (11, { g := some false }), (12, { g := some false }), (13, { g := some false })], [], []⟩ (told0 _ _) rfl ?_ ?_; rotate_left 1)
              · (repeat (first | (refine lwp_seq fun K hK => ?_) | (refine thenS_normal ?_; apply_assumption -exfalso -symm) | (refine thenS_exit ?_) | (refine thenS_ret ?_) | (refine inBlockS_normal ?_) | (refine inBlockS_ret ?_) | (refine inBlockS_hit rfl ?_) | (refine inBlockS_miss rfl ?_) | (refine lwp_block ?_) | (refine lwp_skip ?_) | (refine lwp_exit ?_) | (refine lwp_ret ?_) | (refine lwp_label ?_) | (refine lwp_region hC ⟨[], [], []⟩ (told0 _ _) rfl True.intro ?_) | (refine lwp_region hC ⟨[], [], []⟩ (told0 _ _) rfl (by ((try simp only [AllL, All, cd_p, cp_p, cv_p, InK, and_true, true_and]); all_goals ((repeat' (first | refine And.intro ?_ ?_ | intro _)) <;> first | omega | exact True.intro | assumption | (simp; done) | rfl | (simp_all; done) | (simp_all; omega)))) ?_)))
                (refine lwp_cond hC rfl (by first | exact True.intro | ((try simp only [AllL, All, cd_p, cp_p, cv_p, InK, and_true, true_and]); all_goals ((repeat' (first | refine And.intro ?_ ?_ | intro _)) <;> first | omega | exact True.intro | assumption | (simp; done) | rfl | (simp_all; done) | (simp_all; omega)))) (fun hb => ?_) (fun hb => ?_) <;> (try simp only [decide_eq_true_eq, decide_eq_false_iff_not, Bool.not_eq_true', Bool.not_eq_false', ne_eq, Decidable.not_not] at hb))
                · rw [hno, if_neg (by decide)] at hstep
                  (repeat (first | (refine lwp_seq fun K hK => ?_) | (refine thenS_normal ?_; apply_assumption -exfalso -symm) | (refine thenS_exit ?_) | (refine thenS_ret ?_) | (refine inBlockS_normal ?_) | (refine inBlockS_ret ?_) | (refine inBlockS_hit rfl ?_) | (refine inBlockS_miss rfl ?_) | (refine lwp_block ?_) | (refine lwp_skip ?_) | (refine lwp_exit ?_) | (refine lwp_ret ?_) | (refine lwp_label ?_) | (refine lwp_region hC ⟨[], [], []⟩ (told0 _ _) rfl True.intro ?_) | (refine lwp_region hC ⟨[], [], []⟩ (told0 _ _) rfl (by ((try simp only [AllL, All, cd_p, cp_p, cv_p, InK, and_true, true_and]); all_goals ((repeat' (first | refine And.intro ?_ ?_ | intro _)) <;> first | omega | exact True.intro | assumption | (simp; done) | rfl | (simp_all; done) | (simp_all; omega)))) ?_)))
                  refine thenS_normal ⟨i + 1, ?_, ?_, sub_intro hm [(0, some 0), (1, some 1), (2, some 2), (3, some 3), (4, some 4), (5, some 5), (6, some 6)] rfl ?_⟩
                  · omega
                  · omega
                  · rw [hstep]
                    ((try simp only [AllL, All, cd_p, cp_p, cv_p, InK, and_true, true_and]); all_goals ((repeat' (first | refine And.intro ?_ ?_ | intro _)) <;> first | omega | exact True.intro | assumption | (simp; done) | rfl | (simp_all; done) | (simp_all; omega)))
                · exact absurd hb (by decide)
              · ((try simp only [AllL, All, cd_p, cp_p, cv_p, InK, and_true, true_and]); all_goals ((repeat' (first | refine And.intro ?_ ?_ | intro _)) <;> first | omega | exact True.intro | assumption | (simp; done) | rfl | (simp_all; done) | (simp_all; omega)))
            | true =>
              (refine lwp_region hC ⟨[(2, { b := some false }), (6, { b := some false })], [], [(10, Abs_i (lvS a (a.first + i) - lvS b (a.first + i))), (12, RCut_i lim)]⟩ (told1 _ (by rw [hP]; exact (calls_cons (Abs_s _ (by omega)) (calls_cons (RCut_s _ hl) calls_nil)))) rfl ?_ ?_; rotate_left 1)
              · rw [hLL]
                (repeat (first | (refine lwp_seq fun K hK => ?_) | (refine thenS_normal ?_; apply_assumption -exfalso -symm) | (refine thenS_exit ?_) | (refine thenS_ret ?_) | (refine inBlockS_normal ?_) | (refine inBlockS_ret ?_) | (refine inBlockS_hit rfl ?_) | (refine inBlockS_miss rfl ?_) | (refine lwp_block ?_) | (refine lwp_skip ?_) | (refine lwp_exit ?_) | (refine lwp_ret ?_) | (refine lwp_label ?_) | (refine lwp_region hC ⟨[], [], []⟩ (told0 _ _) rfl True.intro ?_) | (refine lwp_region hC ⟨[], [], []⟩ (told0 _ _) rfl (by ((try simp only [AllL, All, cd_p, cp_p, cv_p, InK, and_true, true_and]); all_goals ((repeat' (first | refine And.intro ?_ ?_ | intro _)) <;> first | omega | exact True.intro | assumption | (simp; done) | rfl | (simp_all; done) | (simp_all; omega)))) ?_)))
                (refine lwp_cond hC rfl (by first | exact True.intro | ((try simp only [AllL, All, cd_p, cp_p, cv_p, InK, and_true, true_and]); all_goals ((repeat' (first | refine And.intro ?_ ?_ | intro _)) <;> first | omega | exact True.intro | assumption | (simp; done) | rfl | (simp_all; done) | (simp_all; omega)))) (fun hb => ?_) (fun hb => ?_) <;> (try simp only [decide_eq_true_eq, decide_eq_false_iff_not, Bool.not_eq_true', Bool.not_eq_false', ne_eq, Decidable.not_not] at hb))
                · have hno : apB a b L (a.first + i) = false := by
                    unfold apB
                    rw [k1, k2, decide_eq_false (by have := of_decide_eq_true hb; omega)]
                    rfl
                  rw [hno, if_neg (by decide)] at hstep
                  (repeat (first | (refine lwp_seq fun K hK => ?_) | (refine thenS_normal ?_; apply_assumption -exfalso -symm) | (refine thenS_exit ?_) | (refine thenS_ret ?_) | (refine inBlockS_normal ?_) | (refine inBlockS_ret ?_) | (refine inBlockS_hit rfl ?_) | (refine inBlockS_miss rfl ?_) | (refine lwp_block ?_) | (refine lwp_skip ?_) | (refine lwp_exit ?_) | (refine lwp_ret ?_) | (refine lwp_label ?_) | (refine lwp_region hC ⟨[], [], []⟩ (told0 _ _) rfl True.intro ?_) | (refine lwp_region hC ⟨[], [], []⟩ (told0 _ _) rfl (by ((try simp only [AllL, All, cd_p, cp_p, cv_p, InK, and_true, true_and]); all_goals ((repeat' (first | refine And.intro ?_ ?_ | intro _)) <;> first | omega | exact True.intro | assumption | (simp; done) | rfl | (simp_all; done) | (simp_all; omega)))) ?_)))
                  refine thenS_normal ⟨i + 1, ?_, ?_, sub_intro hm [(0, some 0), (1, some 1), (2, some 2), (3, some 3), (4, some 4), (5, some 5), (6, some 6)] rfl ?_⟩
                  · omega
                  · omega
                  · rw [hstep]
                    ((try simp only [AllL, All, cd_p, cp_p, cv_p, InK, and_true, true_and]); all_goals ((repeat' (first | refine And.intro ?_ ?_ | intro _)) <;> first | omega | exact True.intro | assumption | (simp; done) | rfl | (simp_all; done) | (simp_all; omega)))
                · have hyes : apB a b L (a.first + i) = true := by
                    unfold apB
                    rw [k1, k2, decide_eq_true (by have := of_decide_eq_false hb; omega)]
                    rfl
                  rw [if_pos hyes] at hstep
                  clear hb
                  have e1 : ((A.length : Int) - 1).toNat = A.length - 1 := by omega
                  repeat first | refine lwp_seq fun K hK => ?_ | ((with_reducible refine thenS_normal ?_); apply_assumption -exfalso -symm) | refine thenS_exit ?_ | refine thenS_ret ?_ | refine inBlockS_normal ?_ | refine inBlockS_ret ?_ | refine inBlockS_hit rfl ?_ | refine inBlockS_miss rfl ?_ | refine lwp_block ?_ | refine lwp_skip ?_ | refine lwp_exit ?_ | refine lwp_ret ?_ | refine lwp_label ?_ | refine lwp_region hC ⟨[], [], []⟩ (told0 _ _) rfl True.intro ?_
                  (refine lwp_region hC ⟨[], [], []⟩ (told0 _ _) rfl ?_ ?_; rotate_left 1)
                  · (repeat (first | (refine lwp_seq fun K hK => ?_) | (refine thenS_normal ?_; apply_assumption -exfalso -symm) | (refine thenS_exit ?_) | (refine thenS_ret ?_) | (refine inBlockS_normal ?_) | (refine inBlockS_ret ?_) | (refine inBlockS_hit rfl ?_) | (refine inBlockS_miss rfl ?_) | (refine lwp_block ?_) | (refine lwp_skip ?_) | (refine lwp_exit ?_) | (refine lwp_ret ?_) | (refine lwp_label ?_) | (refine lwp_region hC ⟨[], [], []⟩ (told0 _ _) rfl True.intro ?_) | (refine lwp_region hC ⟨[], [], []⟩ (told0 _ _) rfl (by ((try simp only [AllL, All, cd_p, cp_p, cv_p, InK, and_true, true_and]); all_goals ((repeat' (first | refine And.intro ?_ ?_ | intro _)) <;> first | omega | exact True.intro | assumption | (simp; done) | rfl | (simp_all; done) | (simp_all; omega)))) ?_)))
                    (refine lwp_cond hC rfl (by first | exact True.intro | ((try simp only [AllL, All, cd_p, cp_p, cv_p, InK, and_true, true_and]); all_goals ((repeat' (first | refine And.intro ?_ ?_ | intro _)) <;> first | omega | exact True.intro | assumption | (simp; done) | rfl | (simp_all; done) | (simp_all; omega)))) (fun hb => ?_) (fun hb => ?_) <;> (try simp only [decide_eq_true_eq, decide_eq_false_iff_not, Bool.not_eq_true', Bool.not_eq_false', ne_eq, Decidable.not_not] at hb))
                    · have gg : ∀ x y : Bool, (bif x then y else false) = true → x = true ∧ y = true := by decide
                      obtain ⟨g1, g2⟩ := gg _ _ hb
                      have g1' := of_decide_eq_true g1
                      have g2' := of_decide_eq_true g2
                      rw [e1] at g2'
                      have hE : lngS A (a.first + i) = A.set (A.length - 1) ((A.getD (A.length - 1) (0, 0)).1, a.first + i + 1) := by unfold lngS; rw [if_pos ⟨by omega, g2'⟩]
                      have hcell := genL_set (f := fun p : Int × Int => [Value.int .i64 p.1, Value.int .i64 p.2]) (d := (0, 0)) (sz := 2) A (A.length - 1) 1 [.int .i64 (a.first + i + 1)] ((A.getD (A.length - 1) (0, 0)).1, a.first + i + 1) (by omega) rfl
                      rw [hE] at hstep
                      clear hb g1 g2 gg hE
                      repeat first | refine lwp_seq fun K hK => ?_ | ((with_reducible refine thenS_normal ?_); apply_assumption -exfalso -symm) | refine thenS_exit ?_ | refine thenS_ret ?_ | refine inBlockS_normal ?_ | refine inBlockS_ret ?_ | refine inBlockS_hit rfl ?_ | refine inBlockS_miss rfl ?_ | refine lwp_block ?_ | refine lwp_skip ?_ | refine lwp_exit ?_ | refine lwp_ret ?_ | refine lwp_label ?_ | refine lwp_region hC ⟨[], [], []⟩ (told0 _ _) rfl True.intro ?_
                      (refine lwp_region hC ⟨[], [], []⟩ (told0 _ _) rfl ?_ ?_; rotate_left 1)
                      · rw [e1]
                        (repeat (first | (refine lwp_seq fun K hK => ?_) | (refine thenS_normal ?_; apply_assumption -exfalso -symm) | (refine thenS_exit ?_) | (refine thenS_ret ?_) | (refine inBlockS_normal ?_) | (refine inBlockS_ret ?_) | (refine inBlockS_hit rfl ?_) | (refine inBlockS_miss rfl ?_) | (refine lwp_block ?_) | (refine lwp_skip ?_) | (refine lwp_exit ?_) | (refine lwp_ret ?_) | (refine lwp_label ?_) | (refine lwp_region hC ⟨[], [], []⟩ (told0 _ _) rfl True.intro ?_) | (refine lwp_region hC ⟨[], [], []⟩ (told0 _ _) rfl (by ((try simp only [AllL, All, cd_p, cp_p, cv_p, InK, and_true, true_and]); all_goals ((repeat' (first | refine And.intro ?_ ?_ | intro _)) <;> first | omega | exact True.intro | assumption | (simp; done) | rfl | (simp_all; done) | (simp_all; omega)))) ?_)))
                        refine thenS_normal ⟨i + 1, ?_, ?_, sub_intro hm [(0, some 0), (1, some 1), (2, some 2), (3, some 3), (4, some 4), (5, some 5), (6, some 6)] rfl ?_⟩
                        · omega
                        · omega
                        · rw [hstep, List.length_set]
                          ((try simp only [AllL, All, cd_p, cp_p, cv_p, InK, and_true, true_and]); all_goals ((repeat' (first | refine And.intro ?_ ?_ | intro _)) <;> first | omega | exact True.intro | assumption | (simp; done) | rfl | (simp_all; done) | (simp_all; omega)))
                      · ((try simp only [AllL, All, cd_p, cp_p, cv_p, InK, and_true, true_and]); all_goals ((repeat' (first | refine And.intro ?_ ?_ | intro _)) <;> first | omega | exact True.intro | assumption | (simp; done) | rfl | (simp_all; done) | (simp_all; omega)))
                    · have gg : ∀ x y : Bool, (bif x then y else false) = false → x = true → y = false := by decide
                      have g1 := gg _ _ hb
                      have hE : lngS A (a.first + i) = A ++ [(a.first + i, a.first + i + 1)] := by
                        unfold lngS
                        rw [if_neg]
                        rintro ⟨a1, a2⟩
                        have := g1 (decide_eq_true (by omega))
                        rw [e1, decide_eq_true a2] at this
                        cases this
                      have hcell : (spC (A ++ [(a.first + i, a.first + i + 1)])).cells = (spC A).cells ++ [.lit (.int .i64 (a.first + i)), .lit (.int .i64 (a.first + i + 1))] := genL_snoc (f := fun p : Int × Int => [Value.int .i64 p.1, Value.int .i64 p.2]) (fun _ => rfl) A (a.first + i, a.first + i + 1)
                      have hcell2 : (spC (A ++ [(a.first + i, a.first + i + 1)])).cells = (catC (spC A) (Cont.exp [i64 (a.first + i), i64 (a.first + i + 1)])).cells := by rw [catC_cells, hcell]; rfl
                      rw [hE] at hstep
                      clear hb g1 gg hcell hE
                      (repeat (first | (refine lwp_seq fun K hK => ?_) | (refine thenS_normal ?_; apply_assumption -exfalso -symm) | (refine thenS_exit ?_) | (refine thenS_ret ?_) | (refine inBlockS_normal ?_) | (refine inBlockS_ret ?_) | (refine inBlockS_hit rfl ?_) | (refine inBlockS_miss rfl ?_) | (refine lwp_block ?_) | (refine lwp_skip ?_) | (refine lwp_exit ?_) | (refine lwp_ret ?_) | (refine lwp_label ?_) | (refine lwp_region hC ⟨[], [], []⟩ (told0 _ _) rfl True.intro ?_) | (refine lwp_region hC ⟨[], [], []⟩ (told0 _ _) rfl (by ((try simp only [AllL, All, cd_p, cp_p, cv_p, InK, and_true, true_and]); all_goals ((repeat' (first | refine And.intro ?_ ?_ | intro _)) <;> first | omega | exact True.intro | assumption | (simp; done) | rfl | (simp_all; done) | (simp_all; omega)))) ?_)))
                      refine thenS_normal ⟨i + 1, ?_, ?_, sub_intro hm [(0, some 0), (1, some 1), (2, some 2), (3, some 3), (4, some 4), (5, some 5), (6, some 8)] rfl ?_⟩
                      · omega
                      · omega
                      · rw [hstep, List.length_append]
                        ((try simp only [AllL, All, cd_p, cp_p, cv_p, InK, and_true, true_and]); all_goals ((repeat' (first | refine And.intro ?_ ?_ | intro _)) <;> first | omega | exact True.intro | assumption | (simp; done) | rfl | (simp_all; done) | (simp_all; omega)))
                  · by_cases hx : (0 : Int) < A.length
                    · rw [decide_eq_true hx]
                      ((try simp only [AllL, All, cd_p, cp_p, cv_p, InK, and_true, true_and]); all_goals ((repeat' (first | refine And.intro ?_ ?_ | intro _)) <;> first | omega | exact True.intro | assumption | (simp; done) | rfl | (simp_all; done) | (simp_all; omega)))
                    · rw [decide_eq_false hx]
                      ((try simp only [AllL, All, cd_p, cp_p, cv_p, InK, and_true, true_and]); all_goals ((repeat' (first | refine And.intro ?_ ?_ | intro _)) <;> first | omega | exact True.intro | assumption | (simp; done) | rfl | (simp_all; done) | (simp_all; omega)))
              · ((try simp only [AllL, All, cd_p, cp_p, cv_p, InK, and_true, true_and]); all_goals ((repeat' (first | refine And.intro ?_ ?_ | intro _)) <;> first | omega | exact True.intro | assumption | (simp; done) | rfl | (simp_all; done) | (simp_all; omega)))
        · ((try simp only [AllL, All, cd_p, cp_p, cv_p, InK, and_true, true_and]); all_goals ((repeat' (first | refine And.intro ?_ ?_ | intro _)) <;> first | omega | exact True.intro | assumption | (simp; done) | rfl | (simp_all; done) | (simp_all; omega)))
      · ((try simp only [AllL, All, cd_p, cp_p, cv_p, InK, and_true, true_and]); all_goals ((repeat' (first | refine And.intro ?_ ?_ | intro _)) <;> first | omega | exact True.intro | assumption | (simp; done) | rfl | (simp_all; done) | (simp_all; omega)))
    · have e : i = a.smp.length := by omega
      rw [← hLL] at hA
      rw [e] at hA
      (repeat (first | (refine lwp_seq fun K hK => ?_) | (refine thenS_normal ?_; apply_assumption -exfalso -symm) | (refine thenS_exit ?_) | (refine thenS_ret ?_) | (refine inBlockS_normal ?_) | (refine inBlockS_ret ?_) | (refine inBlockS_hit rfl ?_) | (refine inBlockS_miss rfl ?_) | (refine lwp_block ?_) | (refine lwp_skip ?_) | (refine lwp_exit ?_) | (refine lwp_ret ?_) | (refine lwp_label ?_) | (refine lwp_region hC ⟨[], [], []⟩ (told0 _ _) rfl True.intro ?_) | (refine lwp_region hC ⟨[], [], []⟩ (told0 _ _) rfl (by ((try simp only [AllL, All, cd_p, cp_p, cv_p, InK, and_true, true_and]); all_goals ((repeat' (first | refine And.intro ?_ ?_ | intro _)) <;> first | omega | exact True.intro | assumption | (simp; done) | rfl | (simp_all; done) | (simp_all; omega)))) ?_)))
      rw [hA]
      (refine end_intro (by first | exact .inr rfl | exact .inl rfl) [(4, some 6)] rfl ?_)
      ((try simp only [AllL, All, cd_p, cp_p, cv_p, InK, and_true, true_and]); all_goals ((repeat' (first | refine And.intro ?_ ?_ | intro _)) <;> first | omega | exact True.intro | assumption | (simp; done) | rfl | (simp_all; done) | (simp_all; omega)))

end Go.Proofs.YtoopgdchiljmiaaGreatDoor
