/- Chapter 5: samples' integers are small; runs apart. -/
import Derived.Test.YtoopgdchiljmiaaGreatDoorHi
set_option linter.unusedVariables false
set_option linter.unusedSimpArgs false
namespace Go.Proofs.YtoopgdchiljmiaaGreatDoor
open Go.RowKit Go.Sym

theorem zcut_half (neg : Bool) (n d : Nat) (h : 1 ≤ d) : Ieee.Toward.cut .zero neg n d ≤ n / 2 := by
  unfold Ieee.Toward.cut
  simp only [Bool.toNat_false, Nat.add_zero, Nat.one_shiftLeft]
  have h1 : 2 ^ 1 ≤ 2 ^ min d (n.log2 + 2) := Nat.pow_le_pow_right (by decide) (by omega)
  exact Nat.div_le_div_left h1 (by decide)
theorem cut_small {b : Nat} {s : Bool} {m : Nat} {p : Int} (h : Ieee.Format.read FloatKind.f32.format b = .number s m p) (h1 : m < 16777216) (h2 : p ≤ -1) : -8388608 < (fltToInt .f32 b .i64).getD 0 ∧ (fltToInt .f32 b .i64).getD 0 < 8388608 := by
  unfold fltToInt FloatKind.decode
  rw [h]
  have e : p.toNat = 0 := by omega
  simp only [Ieee.Datum.toInt, Ieee.Datum.integral, e, Nat.shiftLeft_zero]
  have k := zcut_half s m (-p).toNat (by omega)
  have k2 := sgn_le s (Ieee.Toward.cut .zero s m (-p).toNat) 0
  rw [Nat.shiftLeft_zero] at k2
  have a1 : IntKind.i64.min = -9223372036854775808 := by decide
  have a2 : IntKind.i64.max = 9223372036854775807 := by decide
  rw [if_pos (by rw [a1, a2]; omega)]
  simp only [Option.getD_some]
  omega
theorem times16b {b : Nat} (h : fin b = true) (h1 : (FloatKind.f32.format.order b (FloatKind.f32.nearest (-1024)) == some .lt) = false) (h2 : (FloatKind.f32.format.order b (FloatKind.f32.nearest 1024) == some .gt) = false) :
    ∃ r, FloatKind.f32.format.mul b 1098907648 = some r ∧ (-8388608 < (fltToInt .f32 r .i64).getD 0 ∧ (fltToInt .f32 r .i64).getD 0 < 8388608) := by
  obtain ⟨s, m, p, e⟩ := fin_iff.1 h
  obtain ⟨a1, a2, a3, a4⟩ := read_shape e
  unfold Ieee.Format.order at h1 h2
  rw [e, read_m1024] at h1
  rw [e, read_1024] at h2
  simp only [Ieee.Datum.order] at h1 h2
  have hp : p ≤ -13 := by
    refine Int.not_lt.1 fun hlt => ?_
    have hm := a4 (by omega)
    have hb : min p (-13) = -13 := by omega
    rw [hb] at h1 h2
    have hu : ((-13 : Int) - -13).toNat = 0 := by decide
    rw [hu] at h1 h2
    obtain ⟨u, hu2⟩ : ∃ u : Nat, (p - -13).toNat = u + 1 := ⟨(p - -13).toNat - 1, by omega⟩
    rw [hu2] at h1 h2
    have hg : 8388608 < m <<< (u + 1) := by
      rw [Nat.shiftLeft_eq]
      have : 2 ≤ 2 ^ (u + 1) := by
        have := Nat.two_pow_pos u
        rw [Nat.pow_succ]; omega
      have := Nat.mul_le_mul hm this
      omega
    have hz : 8388608 <<< 0 = 8388608 := by decide
    cases s with
    | false =>
      rw [beq_eq_false_iff_ne] at h2
      refine h2 ?_
      rw [Int.compare_eq_gt.2]
      simp only [Ieee.signed, Bool.false_eq_true, if_false, hz]
      omega
    | true =>
      rw [beq_eq_false_iff_ne] at h1
      refine h1 ?_
      rw [Int.compare_eq_lt.2]
      simp only [Ieee.signed, if_true, hz]
      omega
  unfold Ieee.Format.mul
  rw [e, read_16]
  simp only [Ieee.Datum.product, Option.map_some, Ieee.Format.write]
  refine ⟨_, rfl, ?_⟩
  by_cases h0 : m * 8388608 = 0
  · rw [h0]
    have : Ieee.Format.nearest FloatKind.f32.format (s ^^ false) 0 (p + -19) = Ieee.Format.word FloatKind.f32.format (s ^^ false) 0 := rfl
    rw [this]
    obtain ⟨m', p', e', b1, b2⟩ := read_rung (s ^^ false) (r := 0) (by omega)
    exact cut_small e' b1 b2
  · have hl : (m * 8388608).log2 ≤ 46 := by
      have := (Nat.log2_lt (n := m * 8388608) (k := 47) h0).2 (by omega)
      omega
    obtain ⟨r, hr, er⟩ := nearest_rung (s ^^ false) (m * 8388608) (p + -19) h0 (by omega)
    rw [er]
    obtain ⟨m', p', e', b1, b2⟩ := read_rung (s ^^ false) hr
    exact cut_small e' b1 b2
theorem part_small {b : Nat} (h : partS b = 0) : -8388608 < cutW (x16 b) ∧ cutW (x16 b) < 8388608 := by
  unfold partS at h
  split at h
  · cases h
  · rename_i hf
    split at h
    · cases h
    · rename_i hr
      have hf : fin b = true := by cases e : fin b <;> simp_all
      simp only [Bool.or_eq_true, not_or, Bool.not_eq_true] at hr
      obtain ⟨r, h1, h2⟩ := times16b hf hr.1 hr.2
      unfold x16 cutW
      rw [h1]
      exact h2
theorem lv_small {t : Rn} (h : ∀ b ∈ t.smp, partS b = 0) (p : Int) : -8388608 < lvS t p ∧ lvS t p < 8388608 := by
  unfold lvS
  split
  · rename_i hb
    unfold lvB at hb
    simp only [Bool.and_eq_true, decide_eq_true_eq] at hb
    have hlt : (p - t.first).toNat < t.smp.length := by omega
    refine part_small ?_
    rw [List.getD_eq_getElem?_getD, List.getElem?_eq_getElem hlt]
    exact h _ (List.getElem_mem hlt)
  · omega

/-- A valid run's numbers. -/
structure VR (t : Rn) : Prop where
  f : 0 ≤ t.first ∧ t.first ≤ 100000000
  n : t.smp.length ≤ 4096
  h : t.holes.length ≤ 100000
  p : ∀ b ∈ t.smp, partS b = 0
  ok : HolesOk t.smp.length t.holes

end Go.Proofs.YtoopgdchiljmiaaGreatDoor
