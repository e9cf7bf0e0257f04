/- Floating numbers of 32 bits: differences with oneself, the greatest number, sixteen times a small number. No program in sight. -/
import Derived.Test.YtoopgdchiljmiaaGreatDoorSA
set_option linter.unusedVariables false
set_option linter.unusedSimpArgs false
namespace Go.Proofs.YtoopgdchiljmiaaGreatDoor
open Go.RowKit Go.Sym

/-- A word that is a number. -/
def fin (b : Nat) : Bool := match Ieee.Format.read FloatKind.f32.format b with | .number .. => true | _ => false
theorem fin_iff {b : Nat} : fin b = true ↔ ∃ s m p, Ieee.Format.read FloatKind.f32.format b = .number s m p := by
  unfold fin
  split
  · rename_i s m p e; exact ⟨fun _ => ⟨s, m, p, e⟩, fun _ => rfl⟩
  · rename_i h; exact ⟨fun e => by (cases e), fun ⟨s, m, p, e⟩ => absurd e (h s m p)⟩

theorem sgn_not (s : Bool) (m u : Nat) : Ieee.signed s m u + Ieee.signed (!s) m u = 0 := by
  cases s
  · simp only [Ieee.signed, Bool.not_false, Bool.false_eq_true, if_false, if_true]; omega
  · simp only [Ieee.signed, Bool.not_true, Bool.false_eq_true, if_false, if_true]; omega
theorem sub_self_fin {b : Nat} (h : fin b = true) : FloatKind.f32.format.sub b b = some 0 := by
  obtain ⟨s, m, p, e⟩ := fin_iff.1 h
  unfold Ieee.Format.sub
  rw [e]
  simp only [Ieee.Datum.opposite, Ieee.Datum.sum, sgn_not, if_true, Int.natAbs_zero, Option.map_some]
  have : (s && !s) = false := by cases s <;> rfl
  rw [this]
  rfl
theorem sub_self_inf {b : Nat} (h : fin b = false) : FloatKind.f32.format.sub b b = none := by
  unfold fin at h
  unfold Ieee.Format.sub
  cases e : Ieee.Format.read FloatKind.f32.format b with
  | number s m p => rw [e] at h; cases h
  | infinity s => cases s <;> rfl
  | nan s t => rfl

/-- What a word of a number looks like. -/
theorem read_shape {b : Nat} {s : Bool} {m : Nat} {p : Int} (h : Ieee.Format.read FloatKind.f32.format b = .number s m p) : m < 16777216 ∧ -149 ≤ p ∧ p ≤ 104 ∧ (-149 < p → 8388608 ≤ m) := by
  unfold Ieee.Format.read at h
  have k1 : FloatKind.f32.format.signWeight = 2147483648 := by decide +kernel
  have k2 : FloatKind.f32.format.binade = 8388608 := by decide +kernel
  have k3 : FloatKind.f32.format.infRung = 2139095040 := by decide +kernel
  have k4 : FloatKind.f32.format.leastPlace = -149 := by decide +kernel
  simp only [k1, k2, k3, k4] at h
  split at h
  · injection h with h1 h2 h3
    omega
  · split at h
    · injection h with h1 h2 h3
      omega
    · split at h <;> cases h

theorem sgn_le (s : Bool) (m u : Nat) : Ieee.signed s m u ≤ ((m <<< u : Nat) : Int) ∧ -((m <<< u : Nat) : Int) ≤ Ieee.signed s m u := by
  unfold Ieee.signed
  generalize m <<< u = q
  cases s <;> simp only [Bool.false_eq_true, if_false, if_true] <;> omega
theorem read_max : Ieee.Format.read FloatKind.f32.format 2139095039 = .number false 16777215 104 := by decide +kernel
theorem read_min : Ieee.Format.read FloatKind.f32.format 4286578687 = .number true 16777215 104 := by decide +kernel

/-- A word that does not equal itself, or is beyond the greatest number, is none. -/
theorem known_iff (b : Nat) : (!Op.floatEq .f32 b b || (FloatKind.f32.format.order b 2139095039 == some .gt) || (FloatKind.f32.format.order b 4286578687 == some .lt)) = !fin b := by
  unfold fin Op.floatEq Ieee.Format.order
  rw [read_max, read_min]
  cases e : Ieee.Format.read FloatKind.f32.format b with
  | number s m p =>
    obtain ⟨h1, h2, h3, h4⟩ := read_shape e
    have hb : min p 104 = p := by omega
    simp only [Ieee.Datum.order, hb, Int.sub_self, Int.toNat_zero, Int.min_self]
    have hm : m <<< 0 = m := Nat.shiftLeft_zero
    have hp : 16777215 ≤ 16777215 <<< (104 - p).toNat := by
      rw [Nat.shiftLeft_eq]
      exact Nat.le_mul_of_pos_right _ (Nat.two_pow_pos _)
    have k := sgn_le s m 0
    rw [hm] at k
    have g1 : ¬ (Ieee.signed false 16777215 (104 - p).toNat < Ieee.signed s m 0) := by
      simp only [Ieee.signed, Bool.false_eq_true, if_false]
      have := k.1
      simp only [Ieee.signed] at this
      omega
    have g2 : ¬ (Ieee.signed s m 0 < Ieee.signed true 16777215 (104 - p).toNat) := by
      have := k.2
      simp only [Ieee.signed, if_true] at this ⊢
      omega
    have e1 : (some (compare (Ieee.signed s m 0) (Ieee.signed false 16777215 (104 - p).toNat)) == some Ordering.gt) = false := by
      rw [beq_eq_false_iff_ne]
      intro h
      injection h with h
      exact g1 (Int.compare_eq_gt.1 h)
    have e2 : (some (compare (Ieee.signed s m 0) (Ieee.signed true 16777215 (104 - p).toNat)) == some Ordering.lt) = false := by
      rw [beq_eq_false_iff_ne]
      intro h
      injection h with h
      exact g2 (Int.compare_eq_lt.1 h)
    have e3 : (some (compare (Ieee.signed s m 0) (Ieee.signed s m 0)) == some Ordering.eq) = true := by
      rw [beq_iff_eq, Int.compare_eq_eq.2 rfl]
    rw [e1, e2, e3]
    rfl
  | infinity s => cases s <;> rfl
  | nan s t => rfl

theorem cut_le (neg : Bool) (n d : Nat) : Ieee.Toward.cut .even neg n d ≤ n / 2 ^ min d (n.log2 + 2) + 1 := by
  unfold Ieee.Toward.cut
  simp only [Nat.one_shiftLeft]
  exact Nat.add_le_add_left (Bool.toNat_le _) _

/-- What is kept of a number fits. -/
theorem kept_le (neg : Bool) (mag : Nat) (place last : Int) (h0 : mag ≠ 0) (h1 : place + mag.log2 - 23 ≤ last) :
    Ieee.Toward.cut .even neg (mag <<< (place - last).toNat) (last - place).toNat ≤ 16777217 := by
  have hlt : mag < 2 ^ (mag.log2 + 1) := Nat.lt_log2_self
  refine Nat.le_trans (cut_le _ _ _) (Nat.add_le_add_right ?_ 1)
  have e24 : (16777216 : Nat) = 2 ^ 24 := by decide
  rw [Nat.shiftLeft_eq]
  by_cases h : last ≤ place
  · have e1 : (last - place).toNat = 0 := by omega
    rw [e1, Nat.zero_min, Nat.pow_zero, Nat.div_one, e24]
    obtain ⟨u, hu⟩ : ∃ u : Nat, (place - last).toNat = u := ⟨_, rfl⟩
    rw [hu]
    have h2 : mag.log2 + 1 + u ≤ 24 := by omega
    refine Nat.le_trans (Nat.mul_le_mul_right _ (Nat.le_of_lt hlt)) ?_
    rw [← Nat.pow_add]
    exact Nat.pow_le_pow_right (by decide) h2
  · have e1 : (place - last).toNat = 0 := by omega
    rw [e1, Nat.pow_zero, Nat.mul_one]
    obtain ⟨d, hd⟩ : ∃ d : Nat, (last - place).toNat = d := ⟨_, rfl⟩
    rw [hd]
    have h2 : mag.log2 ≤ d + 23 := by omega
    refine Nat.le_of_lt (Nat.div_lt_of_lt_mul ?_)
    rw [e24, ← Nat.pow_add]
    refine Nat.lt_of_lt_of_le hlt (Nat.pow_le_pow_right (by decide) ?_)
    have := Nat.min_def (n := d) (m := mag.log2 + 2)
    split at this <;> omega

/-- The nearest word to a number that is not great, as a rung. -/
theorem nearest_rung (neg : Bool) (mag : Nat) (place : Int) (h0 : mag ≠ 0) (h1 : place + mag.log2 - 23 ≤ -9) :
    ∃ r, r ≤ 1191182337 ∧ Ieee.Format.nearest FloatKind.f32.format neg mag place = Ieee.Format.word FloatKind.f32.format neg r := by
  unfold Ieee.Format.nearest
  have k2 : FloatKind.f32.format.binade = 8388608 := by decide +kernel
  have k4 : FloatKind.f32.format.leastPlace = -149 := by decide +kernel
  have k5 : (FloatKind.f32.format.fractionBits : Int) = 23 := by decide +kernel
  simp only [if_neg h0, k2, k4, k5]
  refine ⟨_, ?_, rfl⟩
  refine Nat.le_trans (Nat.min_le_left _ _) ?_
  have h2 := kept_le neg mag place (max (place + mag.log2 - 23) (-149)) h0 (by omega)
  have h3 : (max (place + (mag.log2 : Int) - 23) (-149) - -149).toNat ≤ 140 := by omega
  refine Nat.le_trans (Nat.add_le_add (Nat.mul_le_mul_right 8388608 h3) h2) (by decide)

/-- A word of a rung that is not great stands for a number that is not great. -/
theorem read_rung (neg : Bool) {r : Nat} (h : r ≤ 1191182337) : ∃ m p, Ieee.Format.read FloatKind.f32.format (Ieee.Format.word FloatKind.f32.format neg r) = .number neg m p ∧ m < 16777216 ∧ p ≤ -1 := by
  unfold Ieee.Format.read Ieee.Format.word
  have k1 : FloatKind.f32.format.signWeight = 2147483648 := by decide +kernel
  have k2 : FloatKind.f32.format.binade = 8388608 := by decide +kernel
  have k3 : FloatKind.f32.format.infRung = 2139095040 := by decide +kernel
  have k4 : FloatKind.f32.format.leastPlace = -149 := by decide +kernel
  simp only [k1, k2, k3, k4]
  have e1 : (if neg = true then 2147483648 + r else r) % 2147483648 = r := by split <;> omega
  have e2 : ((if neg = true then 2147483648 + r else r) / 2147483648 % 2 == 1) = neg := by
    cases neg
    · have : r / 2147483648 % 2 = 0 := by omega
      rw [if_neg (by decide), this]; rfl
    · have : (2147483648 + r) / 2147483648 % 2 = 1 := by omega
      rw [if_pos rfl, this]; rfl
  rw [e1, e2]
  by_cases h1 : r < 8388608
  · rw [if_pos h1]
    exact ⟨_, _, rfl, by omega, by omega⟩
  · rw [if_neg h1, if_pos (by omega)]
    exact ⟨_, _, rfl, by omega, by omega⟩

theorem zcut_le (neg : Bool) (n d : Nat) : Ieee.Toward.cut .zero neg n d ≤ n := by
  unfold Ieee.Toward.cut
  simp only [Bool.toNat_false, Nat.add_zero]
  exact Nat.div_le_self _ _
/-- Such a number can be cut to an integer. -/
theorem cut_some {b : Nat} {s : Bool} {m : Nat} {p : Int} (h : Ieee.Format.read FloatKind.f32.format b = .number s m p) (h1 : m < 16777216) (h2 : p ≤ 0) : (fltToInt .f32 b .i64).isSome = true := by
  unfold fltToInt FloatKind.decode
  rw [h]
  have e : p.toNat = 0 := by omega
  simp only [Ieee.Datum.toInt, Ieee.Datum.integral, e, Nat.shiftLeft_zero]
  have k := zcut_le s m (-p).toNat
  have k2 := sgn_le s (Ieee.Toward.cut .zero s m (-p).toNat) 0
  rw [Nat.shiftLeft_zero] at k2
  have a1 : IntKind.i64.min = -9223372036854775808 := by decide
  have a2 : IntKind.i64.max = 9223372036854775807 := by decide
  rw [if_pos (by rw [a1, a2]; omega)]
  rfl

theorem read_16 : Ieee.Format.read FloatKind.f32.format 1098907648 = .number false 8388608 (-19) := by decide +kernel
theorem read_1024 : Ieee.Format.read FloatKind.f32.format (FloatKind.f32.nearest 1024) = .number false 8388608 (-13) := by decide +kernel
theorem read_m1024 : Ieee.Format.read FloatKind.f32.format (FloatKind.f32.nearest (-1024)) = .number true 8388608 (-13) := by decide +kernel

theorem mul_comm16 (b : Nat) : FloatKind.f32.format.mul 1098907648 b = FloatKind.f32.format.mul b 1098907648 := by
  unfold Ieee.Format.mul
  rw [read_16]
  cases e : Ieee.Format.read FloatKind.f32.format b with
  | number s m p =>
    simp only [Ieee.Datum.product]
    rw [Bool.xor_comm, Nat.mul_comm, Int.add_comm]
  | infinity s => simp only [Ieee.Datum.product, Bool.xor_comm]
  | nan s t => rfl

/-- Sixteen times a number from -1024 to 1024 is one that can be cut. -/
theorem times16 {b : Nat} (h : fin b = true) (h1 : (FloatKind.f32.format.order b (FloatKind.f32.nearest (-1024)) == some .lt) = false) (h2 : (FloatKind.f32.format.order b (FloatKind.f32.nearest 1024) == some .gt) = false) :
    ∃ r, FloatKind.f32.format.mul b 1098907648 = some r ∧ (fltToInt .f32 r .i64).isSome = true := by
  obtain ⟨s, m, p, e⟩ := fin_iff.1 h
  obtain ⟨a1, a2, a3, a4⟩ := read_shape e
  unfold Ieee.Format.order at h1 h2
  rw [e, read_m1024] at h1
  rw [e, read_1024] at h2
  simp only [Ieee.Datum.order] at h1 h2
  have hp : p ≤ -13 := by
    refine Int.not_lt.1 fun hlt => ?_
    have hm := a4 (by omega)
    have hb : min p (-13) = -13 := by omega
    rw [hb] at h1 h2
    have hu : ((-13 : Int) - -13).toNat = 0 := by decide
    rw [hu] at h1 h2
    obtain ⟨u, hu2⟩ : ∃ u : Nat, (p - -13).toNat = u + 1 := ⟨(p - -13).toNat - 1, by omega⟩
    rw [hu2] at h1 h2
    have hg : 8388608 < m <<< (u + 1) := by
      rw [Nat.shiftLeft_eq]
      have : 2 ≤ 2 ^ (u + 1) := by
        have := Nat.two_pow_pos u
        rw [Nat.pow_succ]; omega
      have := Nat.mul_le_mul hm this
      omega
    have hz : 8388608 <<< 0 = 8388608 := by decide
    cases s with
    | false =>
      rw [beq_eq_false_iff_ne] at h2
      refine h2 ?_
      rw [Int.compare_eq_gt.2]
      simp only [Ieee.signed, Bool.false_eq_true, if_false, hz]
      omega
    | true =>
      rw [beq_eq_false_iff_ne] at h1
      refine h1 ?_
      rw [Int.compare_eq_lt.2]
      simp only [Ieee.signed, if_true, hz]
      omega
  unfold Ieee.Format.mul
  rw [e, read_16]
  simp only [Ieee.Datum.product, Option.map_some, Ieee.Format.write]
  refine ⟨_, rfl, ?_⟩
  by_cases h0 : m * 8388608 = 0
  · rw [h0]
    have : Ieee.Format.nearest FloatKind.f32.format (s ^^ false) 0 (p + -19) = Ieee.Format.word FloatKind.f32.format (s ^^ false) 0 := rfl
    rw [this]
    obtain ⟨m', p', e', b1, b2⟩ := read_rung (s ^^ false) (r := 0) (by omega)
    exact cut_some e' b1 (by omega)
  · have hl : (m * 8388608).log2 ≤ 46 := by
      have := (Nat.log2_lt (n := m * 8388608) (k := 47) h0).2 (by omega)
      omega
    obtain ⟨r, hr, er⟩ := nearest_rung (s ^^ false) (m * 8388608) (p + -19) h0 (by omega)
    rw [er]
    obtain ⟨m', p', e', b1, b2⟩ := read_rung (s ^^ false) hr
    exact cut_some e' b1 (by omega)

theorem order_eq_comm (a b : Ieee.Datum) : (a.order b == some .eq) = (b.order a == some .eq) := by
  have key : ∀ x y : Int, (some (compare x y) == some Ordering.eq) = (some (compare y x) == some Ordering.eq) := by
    intro x y
    rw [Bool.eq_iff_iff]
    simp only [beq_iff_eq, Option.some.injEq]
    rw [Int.compare_eq_eq, Int.compare_eq_eq]
    exact eq_comm
  cases a <;> cases b <;> simp only [Ieee.Datum.order]
  · rename_i s m i t n j
    rw [key, Int.min_comm]
  · rename_i s m i t; cases t <;> rfl
  · rename_i s t n j; cases s <;> rfl
  · rename_i s t; cases s <;> cases t <;> rfl
theorem floatEq_comm (x y : Nat) : Op.floatEq .f32 x y = Op.floatEq .f32 y x := order_eq_comm _ _

end Go.Proofs.YtoopgdchiljmiaaGreatDoor
