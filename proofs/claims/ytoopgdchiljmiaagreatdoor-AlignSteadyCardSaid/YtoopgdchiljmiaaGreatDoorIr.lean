/- Chapter 5: samples come back from their integers; a run made of integers. -/
import Derived.Test.YtoopgdchiljmiaaGreatDoorHd
import Derived.Test.YtoopgdchiljmiaaGreatDoorHm
import Derived.Test.YtoopgdchiljmiaaGreatDoorQk
set_option linter.unusedVariables false
set_option linter.unusedSimpArgs false
namespace Go.Proofs.YtoopgdchiljmiaaGreatDoor
open Go.RowKit Go.Sym

theorem log2_pow (N q : Nat) (h : N ≠ 0) : (N * 2 ^ q).log2 = N.log2 + q := by
  induction q with
  | zero => simp
  | succ q ih =>
    have e : N * 2 ^ (q + 1) = 2 * (N * 2 ^ q) := by rw [Nat.pow_succ, Nat.mul_comm (2 ^ q) 2, Nat.mul_left_comm]
    have h2 : N * 2 ^ q ≠ 0 := Nat.mul_ne_zero h (Nat.ne_of_gt (Nat.two_pow_pos q))
    rw [e, Nat.log2_two_mul h2, ih]; omega
theorem cut_whole (neg : Bool) (M d : Nat) (h : M ≠ 0) : Ieee.Toward.cut .even neg (M * 2 ^ d) d = M := by
  have hl := log2_pow M d h
  have hm : min d ((M * 2 ^ d).log2 + 2) = d := Nat.min_eq_left (by omega)
  have hp : 0 < 2 ^ d := Nat.two_pow_pos d
  unfold Ieee.Toward.cut
  simp only [hm, Nat.one_shiftLeft, Nat.mul_div_cancel _ hp, Nat.mul_mod_left]
  have e1 : decide (2 ^ d < 2 * 0) = false := decide_eq_false (by omega)
  simp [e1]
theorem word_parts (neg : Bool) {r : Nat} (h : r < 2147483648) : FloatKind.f32.format.word neg r % 2147483648 = r ∧ (FloatKind.f32.format.word neg r / 2147483648 % 2 == 1) = neg := by
  have k1 : FloatKind.f32.format.signWeight = 2147483648 := by decide +kernel
  unfold Ieee.Format.word
  rw [k1]
  cases neg
  · rw [if_neg (by decide)]
    refine ⟨by omega, ?_⟩
    have : r / 2147483648 % 2 = 0 := by omega
    rw [this]; rfl
  · rw [if_pos rfl]
    refine ⟨by omega, ?_⟩
    have : (2147483648 + r) / 2147483648 % 2 = 1 := by omega
    rw [this]; rfl
/-- A number of at most 24 digits is exact. -/
theorem near32 (neg : Bool) (N q : Nat) (t : Int) (h : N ≠ 0) (hN : N < 16777216) (h1 : -149 ≤ t) (h2 : t ≤ 80) :
    Ieee.Format.read FloatKind.f32.format (Ieee.Format.nearest FloatKind.f32.format neg (N * 2 ^ q) (t - q)) = .number neg (N * 2 ^ min (23 - N.log2) (t + 149).toNat) (t - (min (23 - N.log2) (t + 149).toNat : Nat)) := by
  have k1 : FloatKind.f32.format.signWeight = 2147483648 := by decide +kernel
  have k2 : FloatKind.f32.format.binade = 8388608 := by decide +kernel
  have k3 : FloatKind.f32.format.infRung = 2139095040 := by decide +kernel
  have k4 : FloatKind.f32.format.leastPlace = -149 := by decide +kernel
  have k5 : (FloatKind.f32.format.fractionBits : Int) = 23 := by decide +kernel
  have hlog : N.log2 ≤ 23 := by
    have := (Nat.log2_lt (n := N) (k := 24) h).2 (by simpa using hN)
    omega
  obtain ⟨d, hd⟩ : ∃ d, min (23 - N.log2) (t + 149).toNat = d := ⟨_, rfl⟩
  rw [hd]
  have hmag : N * 2 ^ q ≠ 0 := Nat.mul_ne_zero h (Nat.ne_of_gt (Nat.two_pow_pos q))
  have hl := log2_pow N q h
  have hlast : max (t - (q : Int) + ((N * 2 ^ q).log2 : Nat) - 23) (-149) = t - (d : Int) := by rw [hl]; omega
  have q1 : N * 2 ^ d < 16777216 := by
    have h1 : N < 2 ^ (N.log2 + 1) := Nat.lt_log2_self
    have h2 : N * 2 ^ d < 2 ^ (N.log2 + 1) * 2 ^ d := Nat.mul_lt_mul_of_pos_right h1 (Nat.two_pow_pos d)
    rw [← Nat.pow_add] at h2
    have h3 : 2 ^ (N.log2 + 1 + d) ≤ 2 ^ 24 := Nat.pow_le_pow_right (by decide) (by omega)
    have e : (2 : Nat) ^ 24 = 16777216 := by decide +kernel
    omega
  have q0 : 8388608 ≤ N * 2 ^ d ∨ t - (d : Int) = -149 := by
    by_cases hc : d = 23 - N.log2
    · refine .inl ?_
      have h1 : 2 ^ N.log2 ≤ N := Nat.log2_self_le h
      have h2 : 2 ^ N.log2 * 2 ^ d ≤ N * 2 ^ d := Nat.mul_le_mul_right _ h1
      rw [← Nat.pow_add, show N.log2 + d = 23 by omega] at h2
      have e : (2 : Nat) ^ 23 = 8388608 := by decide +kernel
      omega
    · exact .inr (by omega)
  have hkept : Ieee.Toward.cut .even neg ((N * 2 ^ q) <<< (t - (q : Int) - (t - (d : Int))).toNat) (t - (d : Int) - (t - (q : Int))).toNat = N * 2 ^ d := by
    rcases Nat.le_total q d with hqd | hqd
    · have e1 : (t - (q : Int) - (t - (d : Int))).toNat = d - q := by omega
      have e2 : (t - (d : Int) - (t - (q : Int))).toNat = 0 := by omega
      have := cut_whole neg (N * 2 ^ d) 0 (Nat.mul_ne_zero h (Nat.ne_of_gt (Nat.two_pow_pos d)))
      rw [Nat.pow_zero, Nat.mul_one] at this
      rw [e1, e2, Nat.shiftLeft_eq, Nat.mul_assoc, ← Nat.pow_add, show q + (d - q) = d by omega]
      exact this
    · have e1 : (t - (q : Int) - (t - (d : Int))).toNat = 0 := by omega
      have e2 : (t - (d : Int) - (t - (q : Int))).toNat = q - d := by omega
      have e3 : N * 2 ^ q = N * 2 ^ d * 2 ^ (q - d) := by rw [Nat.mul_assoc, ← Nat.pow_add, show d + (q - d) = q by omega]
      rw [e1, e2, Nat.shiftLeft_zero, e3]
      exact cut_whole _ _ _ (Nat.mul_ne_zero h (Nat.ne_of_gt (Nat.two_pow_pos d)))
  obtain ⟨u, hu⟩ : ∃ u : Nat, (t - (d : Int) - -149).toNat = u := ⟨_, rfl⟩
  have hu2 : u ≤ 229 := by omega
  have hn : Ieee.Format.nearest FloatKind.f32.format neg (N * 2 ^ q) (t - (q : Int)) = Ieee.Format.word FloatKind.f32.format neg (u * 8388608 + N * 2 ^ d) := by
    unfold Ieee.Format.nearest
    rw [if_neg hmag]
    dsimp only
    rw [k4, k5, hlast, hkept, hu, k2, k3, Nat.min_eq_left (by omega)]
  rw [hn]
  generalize N * 2 ^ d = K at *
  have hw := word_parts neg (r := u * 8388608 + K) (by omega)
  unfold Ieee.Format.read
  dsimp only
  rw [k1, hw.1, hw.2, k2, k3, k4]
  by_cases hK : 8388608 ≤ K
  · rw [if_neg (by omega), if_pos (by omega)]
    have e1 : 8388608 + (u * 8388608 + K) % 8388608 = K := by omega
    have e2 : (-149 : Int) + (((u * 8388608 + K) / 8388608 - 1 : Nat) : Int) = t - d := by omega
    rw [e1, e2]
  · rw [if_pos (by omega)]
    have e1 : u * 8388608 + K = K := by omega
    have e2 : (-149 : Int) = t - d := by omega
    rw [e1, e2]
theorem signed_inj {s s' : Bool} {A B u v : Nat} (h : Ieee.signed s A u = Ieee.signed s' B v) (h0 : A <<< u ≠ 0) : s = s' ∧ A <<< u = B <<< v := by
  unfold Ieee.signed at h
  generalize A <<< u = X at *
  generalize B <<< v = Y at *
  cases s <;> cases s' <;> simp only [Bool.false_eq_true, if_false, if_true] at h <;> first | exact ⟨rfl, by omega⟩ | (exfalso; omega)
theorem order_eq {x y : Nat} {s s' : Bool} {m m' : Nat} {p p' : Int} (hx : Ieee.Format.read FloatKind.f32.format x = .number s m p) (hy : Ieee.Format.read FloatKind.f32.format y = .number s' m' p') : Op.floatEq .f32 x y = true ↔ Ieee.signed s m (p - min p p').toNat = Ieee.signed s' m' (p' - min p p').toNat := by
  unfold Op.floatEq Ieee.Format.order
  rw [hx, hy]
  simp only [Ieee.Datum.order, beq_iff_eq, Option.some.injEq, Int.compare_eq_eq]
theorem read_n {n : Int} (h0 : n ≠ 0) (hn : n.natAbs < 16777216) : Ieee.Format.read FloatKind.f32.format (FloatKind.f32.nearest n) = .number (decide (n < 0)) (n.natAbs * 2 ^ (23 - n.natAbs.log2)) (-((23 - n.natAbs.log2 : Nat) : Int)) := by
  have h := near32 (decide (n < 0)) n.natAbs 0 0 (by omega) hn (by omega) (by omega)
  have hlog : n.natAbs.log2 ≤ 23 := by
    have := (Nat.log2_lt (n := n.natAbs) (k := 24) (by omega)).2 (by simpa using hn)
    omega
  rw [Nat.min_eq_left (by omega), Nat.pow_zero, Nat.mul_one] at h
  simp only [Int.zero_sub] at h
  exact h
/-- A sixteenth of an integer. -/
theorem sixteenth {n : Int} (h0 : n ≠ 0) (hn : n.natAbs < 16777216) (r16 : Ieee.Format.read FloatKind.f32.format 1098907648 = .number false 8388608 (-19)) : ∃ (r g : Nat), FloatKind.f32.format.div (FloatKind.f32.nearest n) 1098907648 = some r ∧ Ieee.Format.read FloatKind.f32.format r = .number (decide (n < 0)) (n.natAbs * 2 ^ g) (-4 - (g : Int)) := by
  have hlog : n.natAbs.log2 ≤ 23 := by
    have := (Nat.log2_lt (n := n.natAbs) (k := 24) (by omega)).2 (by simpa using hn)
    omega
  obtain ⟨e, he⟩ : ∃ e, 23 - n.natAbs.log2 = e := ⟨_, rfl⟩
  have hr := read_n h0 hn
  rw [he] at hr
  unfold Ieee.Format.div
  rw [hr, r16]
  have k5 : FloatKind.f32.format.fractionBits = 23 := by decide +kernel
  have hl := log2_pow n.natAbs e (by omega)
  have hl2 : (n.natAbs * 2 ^ e).log2 = 23 := by omega
  have l23 : Nat.log2 8388608 = 23 := by decide +kernel
  have e1 : (n.natAbs * 2 ^ e) <<< 25 = (n.natAbs * 2 ^ e * 4) * 8388608 := by rw [Nat.shiftLeft_eq, Nat.mul_assoc (n.natAbs * 2 ^ e)]
  have hq : Ieee.Datum.quotient 25 (.number (decide (n < 0)) (n.natAbs * 2 ^ e) (-(e : Int))) (.number false 8388608 (-19)) = some (.number (decide (n < 0)) (n.natAbs * 2 ^ (e + 3)) (-4 - ((e + 3 : Nat) : Int))) := by
    unfold Ieee.Datum.quotient
    simp only [hl2, l23]
    rw [if_neg (by decide)]
    have e2 : (25 + 23 - 23 : Nat) = 25 := rfl
    rw [e2, e1, Nat.mul_div_cancel _ (by decide), Nat.mul_mod_left]
    have e3 : 2 * (n.natAbs * 2 ^ e * 4) + ((0 != 0) : Bool).toNat = n.natAbs * 2 ^ (e + 3) := by
      rw [Nat.pow_add, show ((0 != 0) : Bool).toNat = 0 from rfl, Nat.add_zero, show (2 : Nat) ^ 3 = 8 from rfl, ← Nat.mul_assoc n.natAbs]
      generalize n.natAbs * 2 ^ e = K
      omega
    rw [e3]
    have e4 : (-(e : Int) - -19 - ((25 : Nat) : Int) - 1) = -4 - ((e + 3 : Nat) : Int) := by omega
    rw [e4, Bool.xor_false]
  rw [k5, hq]
  have h := near32 (decide (n < 0)) n.natAbs (e + 3) (-4) (by omega) hn (by omega) (by omega)
  exact ⟨_, _, rfl, h⟩
theorem shl_eq (a u : Nat) : a <<< u = a * 2 ^ u := Nat.shiftLeft_eq a u
/-- A number whose sixteenfold is an integer is a sixteenth of this. -/
theorem back16 {b : Nat} {s : Bool} {m : Nat} {p n : Int} (hb : Ieee.Format.read FloatKind.f32.format b = .number s m p) (h0 : m ≠ 0) (hm : m < 16777216) (h1 : -149 ≤ p) (h2 : p ≤ 70) (hn : n.natAbs < 16777216)
    (r16 : Ieee.Format.read FloatKind.f32.format 1098907648 = .number false 8388608 (-19)) (r0 : Ieee.Format.read FloatKind.f32.format (FloatKind.f32.nearest 0) = .number false 0 (-149))
    (he : Op.floatEq .f32 ((FloatKind.f32.format.mul b 1098907648).getD 0) (FloatKind.f32.nearest n) = true) : n ≠ 0 ∧ ∃ r, FloatKind.f32.format.div (FloatKind.f32.nearest n) 1098907648 = some r ∧ Op.floatEq .f32 b r = true := by
  have hx : Ieee.Format.read FloatKind.f32.format ((FloatKind.f32.format.mul b 1098907648).getD 0) = .number s (m * 2 ^ min (23 - m.log2) (p + 4 + 149).toNat) (p + 4 - (min (23 - m.log2) (p + 4 + 149).toNat : Nat)) := by
    have h := near32 s m 23 (p + 4) h0 hm (by omega) (by omega)
    have e23 : (2 : Nat) ^ 23 = 8388608 := by decide +kernel
    have e19 : p + 4 - ((23 : Nat) : Int) = p + -19 := by omega
    rw [e23, e19] at h
    have hmul : FloatKind.f32.format.mul b 1098907648 = some (Ieee.Format.nearest FloatKind.f32.format s (m * 8388608) (p + -19)) := by
      unfold Ieee.Format.mul
      rw [hb, r16]
      simp only [Ieee.Datum.product, Option.map_some, Ieee.Format.write, Bool.xor_false]
    rw [hmul, Option.getD_some]
    exact h
  obtain ⟨d, hd⟩ : ∃ d, min (23 - m.log2) (p + 4 + 149).toNat = d := ⟨_, rfl⟩
  rw [hd] at hx
  have hn0 : n ≠ 0 := by
    rintro rfl
    have h := (order_eq hx r0).1 he
    generalize (p + 4 - (d : Int) - min (p + 4 - (d : Int)) (-149)).toNat = u at h
    generalize (-149 - min (p + 4 - (d : Int)) (-149)).toNat = v at h
    obtain ⟨_, h⟩ := signed_inj h (by
      rw [shl_eq]
      exact Nat.ne_of_gt (Nat.mul_pos (Nat.mul_pos (Nat.pos_of_ne_zero h0) (Nat.two_pow_pos _)) (Nat.two_pow_pos _)))
    rw [shl_eq, shl_eq, Nat.zero_mul] at h
    exact absurd h (Nat.ne_of_gt (Nat.mul_pos (Nat.mul_pos (Nat.pos_of_ne_zero h0) (Nat.two_pow_pos _)) (Nat.two_pow_pos _)))
  refine ⟨hn0, ?_⟩
  obtain ⟨r, g, hr, hg⟩ := sixteenth hn0 hn r16
  refine ⟨r, hr, ?_⟩
  have hy := read_n hn0 hn
  obtain ⟨e, hee⟩ : ∃ e, 23 - n.natAbs.log2 = e := ⟨_, rfl⟩
  rw [hee] at hy
  have h := (order_eq hx hy).1 he
  rw [order_eq hb hg]
  obtain ⟨hs, h⟩ := signed_inj h (by
    rw [shl_eq]
    exact Nat.ne_of_gt (Nat.mul_pos (Nat.mul_pos (Nat.pos_of_ne_zero h0) (Nat.two_pow_pos _)) (Nat.two_pow_pos _)))
  rw [shl_eq, shl_eq, Nat.mul_assoc, Nat.mul_assoc, ← Nat.pow_add, ← Nat.pow_add] at h
  generalize hN : n.natAbs = N at *
  -- m 2^(p+4+Q) = N 2^Q
  obtain ⟨Q, hQ⟩ : ∃ Q : Nat, min (p + 4 - (d : Int)) (-(e : Int)) = -(Q : Int) := ⟨(-(min (p + 4 - (d : Int)) (-(e : Int)))).toNat, by omega⟩
  rw [hQ] at h
  have a1 : d + (p + 4 - (d : Int) - -(Q : Int)).toNat = (p + 4 + Q).toNat := by omega
  have a2 : e + (-(e : Int) - -(Q : Int)).toNat = Q := by omega
  rw [a1, a2] at h
  obtain ⟨R, hR⟩ : ∃ R : Nat, min p (-4 - (g : Int)) = -(R : Int) := ⟨(-(min p (-4 - (g : Int)))).toNat, by omega⟩
  rw [hR]
  have hfin : m * 2 ^ (p - -(R : Int)).toNat = N * 2 ^ g * 2 ^ (-4 - (g : Int) - -(R : Int)).toNat := by
    rw [Nat.mul_assoc, ← Nat.pow_add]
    have a3 : g + (-4 - (g : Int) - -(R : Int)).toNat = R - 4 := by omega
    rw [a3]
    have a4 : m * 2 ^ (p - -(R : Int)).toNat * 2 ^ (Q + 4) = N * 2 ^ (R - 4) * 2 ^ (Q + 4) := by
      rw [Nat.mul_assoc, Nat.mul_assoc, ← Nat.pow_add, ← Nat.pow_add]
      have a5 : (p - -(R : Int)).toNat + (Q + 4) = (p + 4 + Q).toNat + R := by omega
      have a6 : R - 4 + (Q + 4) = Q + R := by omega
      rw [a5, a6, Nat.pow_add, Nat.pow_add, ← Nat.mul_assoc, ← Nat.mul_assoc, h]
    exact Nat.mul_right_cancel (Nat.two_pow_pos _) a4
  unfold Ieee.signed
  rw [hs, shl_eq, shl_eq, hfin]

end Go.Proofs.YtoopgdchiljmiaaGreatDoor

namespace Go.Proofs.YtoopgdchiljmiaaGreatDoor
open Go.RowKit Go.Sym

theorem read_null : Ieee.Format.read FloatKind.f32.format (FloatKind.f32.nearest 0) = .number false 0 (-149) := by decide +kernel
theorem read_zero : Ieee.Format.read FloatKind.f32.format 0 = .number false 0 (-149) := by decide +kernel
theorem div_null : FloatKind.f32.format.div (FloatKind.f32.nearest 0) 1098907648 = some 0 := by decide +kernel
theorem cut_words (s : Bool) : cutW (Ieee.Format.word FloatKind.f32.format s 0) = 0 := by cases s <;> decide +kernel
/-- A sample's word, from its integer. -/
def smpW (n : Int) : Nat := (FloatKind.f32.format.div (FloatKind.f32.nearest n) 1098907648).getD 0
theorem samp_back {b : Nat} (h : partS b = 0) : FloatKind.f32.format.div (FloatKind.f32.nearest (cutW (x16 b))) 1098907648 = some (smpW (cutW (x16 b))) ∧ Op.floatEq .f32 b (smpW (cutW (x16 b))) = true := by
  have hs := part_small h
  have key : ∃ r, FloatKind.f32.format.div (FloatKind.f32.nearest (cutW (x16 b))) 1098907648 = some r ∧ Op.floatEq .f32 b r = true := by
    unfold partS at h
    split at h
    · cases h
    · rename_i hf
      split at h
      · cases h
      · rename_i hr
        have hf : fin b = true := by cases e : fin b <;> simp_all
        simp only [Bool.or_eq_true, not_or, Bool.not_eq_true] at hr
        rw [whenS_eq _ 3 (by decide), Bool.not_eq_false'] at h
        obtain ⟨s, m, p, e⟩ := fin_iff.1 hf
        obtain ⟨a1, a2, a3, a4⟩ := read_shape e
        have hp := place_small e hr.1 hr.2
        by_cases hm : m = 0
        · subst hm
          have hx : x16 b = Ieee.Format.word FloatKind.f32.format (s ^^ false) 0 := by
            unfold x16 Ieee.Format.mul
            rw [e, read_16]
            simp only [Ieee.Datum.product, Option.map_some, Option.getD_some, Ieee.Format.write, Nat.zero_mul]
            rfl
          rw [hx, cut_words]
          refine ⟨0, div_null, ?_⟩
          rw [order_eq e read_zero]
          unfold Ieee.signed
          simp
        · exact (back16 e hm a1 a2 (by omega) (by omega) read_16 read_null h).2
  obtain ⟨r, h1, h2⟩ := key
  have e : smpW (cutW (x16 b)) = r := by unfold smpW; rw [h1]; rfl
  rw [e]
  exact ⟨h1, h2⟩

/-- The readings by places, after so many samples: where each of them is put, and how many places there are. -/
def rgA (t : Rn) (g : Nat → Nat) (N : Nat) : Nat → List (Nat × Bool)
  | 0 => List.replicate N (0, false)
  | i + 1 => if knownB t.holes i = true then (rgA t g N i).set (g i) (t.smp.getD i 0, true) else rgA t g N i
theorem rgA_len (t : Rn) (g : Nat → Nat) (N : Nat) : ∀ i, (rgA t g N i).length = N
  | 0 => by simp [rgA]
  | i + 1 => by
    unfold rgA
    split
    · rw [List.length_set, rgA_len t g N i]
    · exact rgA_len t g N i
theorem rgA_ok {t : Rn} (hp : ∀ b ∈ t.smp, partS b = 0) (g : Nat → Nat) (N : Nat) : ∀ i, i ≤ t.smp.length → ∀ p ∈ rgA t g N i, (p.2 = true → partS p.1 = 0) ∧ (p.2 = false → p.1 = 0)
  | 0, _, p, h => by
    unfold rgA at h
    rw [(List.mem_replicate.1 h).2]
    exact ⟨fun h => by (cases h), fun _ => rfl⟩
  | i + 1, hi, p, h => by
    have ih := rgA_ok hp g N i (by omega)
    unfold rgA at h
    split at h
    · rcases List.mem_or_eq_of_mem_set h with h | h
      · exact ih p h
      · rw [h]
        exact ⟨fun _ => hp _ (mem_getD (by omega)), fun h => by (cases h)⟩
    · exact ih p h
/-- Their integers, which of them are known; their samples' words again. -/
def lvP (p : Nat × Bool) : Int := if p.2 = true then cutW (x16 p.1) else 0
def bkP (p : Nat × Bool) : Nat := if p.2 = true then smpW (cutW (x16 p.1)) else 0
/-- The holes: the places that are not known. -/
def mdH (K : List Bool) : Nat → List (Int × Int)
  | 0 => []
  | i + 1 => if K.getD i false = true then mdH K i else lngS (mdH K i) i
theorem mdH_len (K : List Bool) : ∀ i, (mdH K i).length ≤ i
  | 0 => Nat.le_refl _
  | i + 1 => by
    have h1 := mdH_len K i
    have h2 := lngS_len (mdH K i) i
    unfold mdH
    split <;> omega
/-- A run of readings by places. -/
def mdR (name : ByteArray) (first : Int) (A : List (Nat × Bool)) : Rn := ⟨name, first, A.map (·.1), mdH (A.map (·.2)) A.length⟩
/-- The same, from the integers. -/
def mdB (name : ByteArray) (first : Int) (A : List (Nat × Bool)) : Rn := ⟨name, first, A.map bkP, mdH (A.map (·.2)) A.length⟩
theorem bkP_eq {p : Nat × Bool} (h : (p.2 = true → partS p.1 = 0) ∧ (p.2 = false → p.1 = 0)) : Op.floatEq .f32 p.1 (bkP p) = true := by
  unfold bkP
  split
  · rename_i h2
    exact (samp_back (h.1 h2)).2
  · rename_i h2
    rw [h.2 (by simpa using h2)]
    decide +kernel

end Go.Proofs.YtoopgdchiljmiaaGreatDoor

namespace Go.Proofs.YtoopgdchiljmiaaGreatDoor
open Go.RowKit Go.Sym

theorem Smp_c (n : Int) (r : Nat) (w : World) (hr : FloatKind.f32.format.div (FloatKind.f32.nearest n) 1098907648 = some r) :
    Calls Tryz.prog 188 #[.int .i64 n] w fun e w' => e = .returned (.float .f32 r) ∧ Below w.heap.size w w' := by
  have hq : ∀ (t : TypeId) (w : World), (binOp .quo t (.float .f32 (floatOfInt .f32 n)) (.float .f32 1098907648)).run Tryz.prog w = .ok (.float .f32 r) w := fun t w => by
    have h2 : FloatKind.f32.format.div (floatOfInt .f32 n) 1098907648 = some r := hr
    simp [binOp, Op.floatArith, h2]
  go_enter Tryz.func188, Tryz.ntmps188
  go_wp2
  go_ret
  exact ⟨rfl, Below.refl _ _⟩
def Smp_i (n : Int) (r : Nat) : Inst := { f := 188, hin := [], args := [i64 n], hout := [], ret := .lit (.float .f32 r), σ := [] }
theorem Smp_s (n : Int) (r : Nat) (hr : FloatKind.f32.format.div (FloatKind.f32.nearest n) 1098907648 = some r) : (Smp_i n r).ok Tryz.prog := by
  refine ⟨⟨_, Tryz.func188, rfl⟩, fun ρ w vs hdom _ hh hd => ?_⟩
  simp only [Smp_i, AV.denL, AV.den, Option.map_some, listO, Option.some.injEq] at hd
  subst hd
  refine (Smp_c n r w hr).mono ?_
  rintro e w' ⟨rfl, hb⟩
  exact post_of_lit hb

end Go.Proofs.YtoopgdchiljmiaaGreatDoor

namespace Go.Proofs.YtoopgdchiljmiaaGreatDoor
open Go.RowKit Go.Sym

theorem flC_snoc (l : List Nat) (x : Nat) : (flC (l ++ [x])).cells = (catC (flC l) (Cont.exp [.lit (.float .f32 x)])).cells := by
  rw [catC_cells, flC_cells, flC_cells]
  simp [floats, Cont.cells]
def Made_i (name : ByteArray) (first : Int) (L : List Int) (kn : List Bool) (W : List Nat) (σ : Ren) : Inst := { f := 124, hin := [(0, .ro L.length 1 (.ints .i64 L)), (1, .ro L.length 1 (.bools kn))], args := [.lit (.string name), i64 first, .sl 0 L.length, .sl 1 L.length], hout := [(2, .row 134 L.length 1 (flC W)), (3, .row 168 (mdH kn L.length).length 2 (spC (mdH kn L.length)))], ret := .agg [.lit (.string name), i64 first, .sl 2 L.length, .sl 3 (mdH kn L.length).length], σ := σ }
set_option maxRecDepth 20000 in
set_option maxHeartbeats 8000000 in
theorem Made_s (name : ByteArray) (first : Int) (L : List Int) (kn : List Bool) (W : List Nat) (σ : Ren) (hl : L.length ≤ 100000) (hkn : kn.length = L.length) (hW : W.length = L.length)
    (h1 : ∀ i, i < L.length → kn.getD i false = true → FloatKind.f32.format.div (FloatKind.f32.nearest (L.getD i 0)) 1098907648 = some (W.getD i 0)) (h2 : ∀ i, i < L.length → kn.getD i false = false → W.getD i 0 = 0) : (Made_i name first L kn W σ).ok Tryz.prog := by
  unfold Made_i Inst.ok; dsimp only; refine spec_of_body (tys := tys) 2 Tryz.func124 (by kernel_rfl) rfl tys_ok rfl (Nat.le_of_ble_eq_true rfl) (fun _ _ h => (by cases h)) fun F hP hm hC hrd => ?_; conv => whnf
  repeat first | refine lwp_seq fun K hK => ?_ | ((with_reducible refine gA ?_); apply_assumption -exfalso -symm) | refine gB ?_ | refine gC ?_ | refine gD ?_ | refine gE ?_ | refine gF rfl ?_ | refine gG rfl ?_ | refine gH ?_ | refine gI ?_ | refine gJ ?_ | refine gK ?_ | refine gL ?_ | refine lwp_region hC ⟨[], [], []⟩ (told0 _ _) rfl ⟨⟩ ?_ | refine lwp_region hC ⟨[], [], []⟩ (told0 _ _) rfl (by exact sd) ?_
  refine lwp_loop (fun i : Nat => ⟨[(10, i64 i), (2, .sl 0 L.length), (3, .sl 1 L.length), (9, .ptr 3 0 0 0), (8, .ptr 2 0 0 0)], [(5, .row 168 (mdH kn i).length 2 (spC (mdH kn i))), (4, .row 134 i 1 (flC (W.take i))), (3, .blk 69 [.lit (.string name), i64 first, .sl 4 i, .sl 5 (mdH kn i).length]), (2, .blk 69 [.lit (.string ⟨#[]⟩), i64 0, .lit (.slice none 0 0), .lit (.slice none 0 0)]), (0, .ro L.length 1 (.ints .i64 L)), (1, .ro L.length 1 (.bools kn))], 6⟩) (fun i => i ≤ L.length) (fun i => L.length - i) 0 ⟨?_, sub_intro hm [(0, some 0), (1, some 1), (2, some 2), (3, some 3), (4, none), (5, none)] rfl ?_⟩ ?_
  · exact Nat.zero_le _
  · unfold mdH
    exact sd
  · rintro i hi
    have hAl := mdH_len kn i
    have hstep : mdH kn (i + 1) = if kn.getD i false = true then mdH kn i else lngS (mdH kn i) i := rfl
    have hend : i = L.length → mdH kn L.length = mdH kn i := fun h => by rw [h]
    have ei : (i : Int).toNat = i := Int.toNat_natCast i
    generalize hA : mdH kn i = A at hAl hstep hend ⊢
    repeat first | refine lwp_seq fun K hK => ?_ | ((with_reducible refine gA ?_); apply_assumption -exfalso -symm) | refine gB ?_ | refine gC ?_ | refine gD ?_ | refine gE ?_ | refine gF rfl ?_ | refine gG rfl ?_ | refine gH ?_ | refine gI ?_ | refine gJ ?_ | refine gK ?_ | refine gL ?_ | refine lwp_region hC ⟨[], [], []⟩ (told0 _ _) rfl ⟨⟩ ?_
    (refine lwp_cond hC rfl (by first | exact ⟨⟩ | exact sd) (fun hb => ?_) (fun hb => ?_) <;> (try simp only [decide_eq_true_eq, decide_eq_false_iff_not, Bool.not_eq_true', Bool.not_eq_false', ne_eq, Decidable.not_not] at hb))
    · have hil : i < L.length := by omega
      clear hb hend
      have htk : W.take (i + 1) = W.take i ++ [W.getD i 0] := take_snoc _ _ _ (by omega)
      have hfl := flC_snoc (W.take i) (W.getD i 0)
      rw [← htk] at hfl
      have h1 := h1 i hil
      have h2 := h2 i hil
      generalize W.getD i 0 = x at htk hfl h1 h2
      repeat first | refine lwp_seq fun K hK => ?_ | ((with_reducible refine gA ?_); apply_assumption -exfalso -symm) | refine gB ?_ | refine gC ?_ | refine gD ?_ | refine gE ?_ | refine gF rfl ?_ | refine gG rfl ?_ | refine gH ?_ | refine gI ?_ | refine gJ ?_ | refine gK ?_ | refine gL ?_ | refine lwp_region hC ⟨[], [], []⟩ (told0 _ _) rfl ⟨⟩ ?_
      (refine lwp_region hC ⟨[], [], []⟩ (told0 _ _) rfl ?_ ?_; rotate_left 1)
      · rw [ei]
        repeat first | refine lwp_seq fun K hK => ?_ | ((with_reducible refine gA ?_); apply_assumption -exfalso -symm) | refine gB ?_ | refine gC ?_ | refine gD ?_ | refine gE ?_ | refine gF rfl ?_ | refine gG rfl ?_ | refine gH ?_ | refine gI ?_ | refine gJ ?_ | refine gK ?_ | refine gL ?_ | refine lwp_region hC ⟨[], [], []⟩ (told0 _ _) rfl ⟨⟩ ?_
        (refine lwp_cond hC rfl (by first | exact ⟨⟩ | exact sd) (fun hb => ?_) (fun hb => ?_) <;> (try simp only [decide_eq_true_eq, decide_eq_false_iff_not, Bool.not_eq_true', Bool.not_eq_false', ne_eq, Decidable.not_not] at hb))
        · rw [if_pos hb] at hstep
          have h1 := h1 hb
          clear hb h2
          repeat first | refine lwp_seq fun K hK => ?_ | ((with_reducible refine gA ?_); apply_assumption -exfalso -symm) | refine gB ?_ | refine gC ?_ | refine gD ?_ | refine gE ?_ | refine gF rfl ?_ | refine gG rfl ?_ | refine gH ?_ | refine gI ?_ | refine gJ ?_ | refine gK ?_ | refine gL ?_ | refine lwp_region hC ⟨[], [], []⟩ (told0 _ _) rfl ⟨⟩ ?_
          (refine lwp_drawn hC (by rw [hP]; exact mixed) ⟨[], [], [(6, Smp_i (L.getD i 0) x)]⟩ (told1 _ (by rw [hP]; exact (calls_cons (Smp_s _ _ h1) calls_nil))) [0, 1, 0, 0, 12, 28, 60, 124, 255, 511, 1023] 8 rfl ?_ ?_; rotate_left 1)
          · repeat first | refine lwp_seq fun K hK => ?_ | ((with_reducible refine gA ?_); apply_assumption -exfalso -symm) | refine gB ?_ | refine gC ?_ | refine gD ?_ | refine gE ?_ | refine gF rfl ?_ | refine gG rfl ?_ | refine gH ?_ | refine gI ?_ | refine gJ ?_ | refine gK ?_ | refine gL ?_ | refine lwp_region hC ⟨[], [], []⟩ (told0 _ _) rfl ⟨⟩ ?_ | refine lwp_region hC ⟨[], [], []⟩ (told0 _ _) rfl (by exact sd) ?_
            refine gA ⟨i + 1, ?_, ?_, sub_intro hm [(0, some 0), (1, some 1), (2, some 2), (3, some 3), (4, some 7), (5, some 5)] rfl ?_⟩
            · omega
            · omega
            · rw [hstep]
              exact sd
          · rw [ei]
            exact sd
        · rw [if_neg (by rw [hb]; decide)] at hstep
          have h2 := h2 hb
          subst h2
          clear hb h1
          have e1 : ((A.length : Int) - 1).toNat = A.length - 1 := by omega
          repeat first | refine lwp_seq fun K hK => ?_ | ((with_reducible refine gA ?_); apply_assumption -exfalso -symm) | refine gB ?_ | refine gC ?_ | refine gD ?_ | refine gE ?_ | refine gF rfl ?_ | refine gG rfl ?_ | refine gH ?_ | refine gI ?_ | refine gJ ?_ | refine gK ?_ | refine gL ?_ | refine lwp_region hC ⟨[], [], []⟩ (told0 _ _) rfl ⟨⟩ ?_
          (refine lwp_region hC ⟨[], [], []⟩ (told0 _ _) rfl ?_ ?_; rotate_left 1)
          rotate_left 1
          · exact sd
          repeat first | refine lwp_seq fun K hK => ?_ | ((with_reducible refine gA ?_); apply_assumption -exfalso -symm) | refine gB ?_ | refine gC ?_ | refine gD ?_ | refine gE ?_ | refine gF rfl ?_ | refine gG rfl ?_ | refine gH ?_ | refine gI ?_ | refine gJ ?_ | refine gK ?_ | refine gL ?_ | refine lwp_region hC ⟨[], [], []⟩ (told0 _ _) rfl ⟨⟩ ?_
          (refine lwp_region hC ⟨[], [], []⟩ (told0 _ _) rfl ?_ ?_; rotate_left 1)
          · repeat first | refine lwp_seq fun K hK => ?_ | ((with_reducible refine gA ?_); apply_assumption -exfalso -symm) | refine gB ?_ | refine gC ?_ | refine gD ?_ | refine gE ?_ | refine gF rfl ?_ | refine gG rfl ?_ | refine gH ?_ | refine gI ?_ | refine gJ ?_ | refine gK ?_ | refine gL ?_ | refine lwp_region hC ⟨[], [], []⟩ (told0 _ _) rfl ⟨⟩ ?_
            (refine lwp_cond hC rfl (by first | exact ⟨⟩ | exact sd) (fun hb => ?_) (fun hb => ?_) <;> (try simp only [decide_eq_true_eq, decide_eq_false_iff_not, Bool.not_eq_true', Bool.not_eq_false', ne_eq, Decidable.not_not] at hb))
            · have gg : ∀ x y : Bool, (bif x then y else false) = true → x = true ∧ y = true := by decide
              obtain ⟨g1, g2⟩ := gg _ _ hb
              have g1' := of_decide_eq_true g1
              have g2' := of_decide_eq_true g2
              rw [e1] at g2'
              have hE : lngS A i = A.set (A.length - 1) ((A.getD (A.length - 1) (0, 0)).1, (i : Int) + 1) := by unfold lngS; rw [if_pos ⟨by omega, g2'⟩]
              have hcell := genL_set (f := fun p : Int × Int => [Value.int .i64 p.1, Value.int .i64 p.2]) (d := (0, 0)) (sz := 2) A (A.length - 1) 1 [.int .i64 ((i : Int) + 1)] ((A.getD (A.length - 1) (0, 0)).1, (i : Int) + 1) (by omega) rfl
              rw [hE] at hstep
              clear hb g1 g2 gg hE
              repeat first | refine lwp_seq fun K hK => ?_ | ((with_reducible refine gA ?_); apply_assumption -exfalso -symm) | refine gB ?_ | refine gC ?_ | refine gD ?_ | refine gE ?_ | refine gF rfl ?_ | refine gG rfl ?_ | refine gH ?_ | refine gI ?_ | refine gJ ?_ | refine gK ?_ | refine gL ?_ | refine lwp_region hC ⟨[], [], []⟩ (told0 _ _) rfl ⟨⟩ ?_
              (refine lwp_region hC ⟨[], [], []⟩ (told0 _ _) rfl ?_ ?_; rotate_left 1)
              · rw [e1]
                repeat first | refine lwp_seq fun K hK => ?_ | ((with_reducible refine gA ?_); apply_assumption -exfalso -symm) | refine gB ?_ | refine gC ?_ | refine gD ?_ | refine gE ?_ | refine gF rfl ?_ | refine gG rfl ?_ | refine gH ?_ | refine gI ?_ | refine gJ ?_ | refine gK ?_ | refine gL ?_ | refine lwp_region hC ⟨[], [], []⟩ (told0 _ _) rfl ⟨⟩ ?_ | refine lwp_region hC ⟨[], [], []⟩ (told0 _ _) rfl (by exact sd) ?_
                refine gA ⟨i + 1, ?_, ?_, sub_intro hm [(0, some 0), (1, some 1), (2, some 2), (3, some 3), (4, some 7), (5, some 5)] rfl ?_⟩
                · omega
                · omega
                · rw [hstep, List.length_set]
                  exact sd
              · exact sd
            · have gg : ∀ x y : Bool, (bif x then y else false) = false → x = true → y = false := by decide
              have g1 := gg _ _ hb
              have hE : lngS A i = A ++ [((i : Int), (i : Int) + 1)] := by
                unfold lngS
                rw [if_neg]
                rintro ⟨a1, a2⟩
                have := g1 (decide_eq_true (by omega))
                rw [e1, decide_eq_true a2] at this
                cases this
              have hcell : (spC (A ++ [((i : Int), (i : Int) + 1)])).cells = (spC A).cells ++ [.lit (.int .i64 i), .lit (.int .i64 ((i : Int) + 1))] := genL_snoc (f := fun p : Int × Int => [Value.int .i64 p.1, Value.int .i64 p.2]) (fun _ => rfl) A ((i : Int), (i : Int) + 1)
              have hcell2 : (spC (A ++ [((i : Int), (i : Int) + 1)])).cells = (catC (spC A) (Cont.exp [i64 i, i64 ((i : Int) + 1)])).cells := by rw [catC_cells, hcell]; rfl
              rw [hE] at hstep
              clear hb g1 gg hcell hE
              repeat first | refine lwp_seq fun K hK => ?_ | ((with_reducible refine gA ?_); apply_assumption -exfalso -symm) | refine gB ?_ | refine gC ?_ | refine gD ?_ | refine gE ?_ | refine gF rfl ?_ | refine gG rfl ?_ | refine gH ?_ | refine gI ?_ | refine gJ ?_ | refine gK ?_ | refine gL ?_ | refine lwp_region hC ⟨[], [], []⟩ (told0 _ _) rfl ⟨⟩ ?_ | refine lwp_region hC ⟨[], [], []⟩ (told0 _ _) rfl (by exact sd) ?_
              refine gA ⟨i + 1, ?_, ?_, sub_intro hm [(0, some 0), (1, some 1), (2, some 2), (3, some 3), (4, some 7), (5, some 10)] rfl ?_⟩
              · omega
              · omega
              · rw [hstep, List.length_append]
                exact sd
          · by_cases hx : (0 : Int) < A.length
            · rw [decide_eq_true hx]
              exact sd
            · rw [decide_eq_false hx]
              exact sd
      · exact sd
    · have e : i = L.length := by omega
      have hend := hend e
      have hw : W.take i = W := by rw [e, ← hW]; exact List.take_of_length_le (Nat.le_refl _)
      rw [hw]
      repeat first | refine lwp_seq fun K hK => ?_ | ((with_reducible refine gA ?_); apply_assumption -exfalso -symm) | refine gB ?_ | refine gC ?_ | refine gD ?_ | refine gE ?_ | refine gF rfl ?_ | refine gG rfl ?_ | refine gH ?_ | refine gI ?_ | refine gJ ?_ | refine gK ?_ | refine gL ?_ | refine lwp_region hC ⟨[], [], []⟩ (told0 _ _) rfl ⟨⟩ ?_
      rw [hend]
      (refine end_intro (by first | exact .inr rfl | exact .inl rfl) [(2, some 4), (3, some 5)] rfl ?_)
      rw [e]
      exact sd

end Go.Proofs.YtoopgdchiljmiaaGreatDoor
