/- ChordBlind: floats that are integers, unseen waves, panels of versines, lists, contracts. -/
import Derived.Test.YtbpffadffbgloaaDoorWa
import Derived.Laws.FloatBits
import Derived.Test.YtbpffadffbgloaaDoorWi
import Derived.Test.YtbpffadffbgloaaDoorYc
import Derived.Test.YtbpffadffbgloaaDoorWg
import Derived.Test.YtbpffadffbgloaaDoorRd
import Derived.Test.YtbpffadffbgloaaDoorRc
set_option linter.unusedVariables false
set_option linter.unusedSimpArgs false
namespace Go.Proofs.YtbpffadffbgloaaDoor

section
open Go.RowKit Go.Sym

theorem read_word (f : Ieee.Format) (neg : Bool) {r : Nat} (h : r < f.signWeight) : f.word neg r / f.signWeight % 2 = (if neg then 1 else 0) ∧ f.word neg r % f.signWeight = r := by
  have hs : 0 < f.signWeight := Nat.two_pow_pos _
  unfold Ieee.Format.word
  cases neg with
  | false => simp [Nat.div_eq_of_lt h, Nat.mod_eq_of_lt h]
  | true => simp [Nat.add_div_left _ hs, Nat.div_eq_of_lt h, Nat.mod_eq_of_lt h]
theorem order_word (f : Ieee.Format) (neg : Bool) {r : Nat} (h : r ≤ f.infRung) : f.order (f.word neg r) (f.word neg r) = some .eq := by
  have hr := read_word f neg (r := r) (Nat.lt_of_le_of_lt h f.infRung_lt)
  have key : ∃ d : Ieee.Datum, f.read (f.word neg r) = d ∧ d.isNaN = false := by
    refine ⟨_, rfl, ?_⟩
    unfold Ieee.Format.read
    dsimp only
    rw [hr.2]
    by_cases h1 : r < f.binade
    · rw [if_pos h1]; rfl
    · rw [if_neg h1]
      by_cases h2 : r < f.infRung
      · rw [if_pos h2]; rfl
      · rw [if_neg h2, if_pos (by omega)]; rfl
  obtain ⟨d, e, hn⟩ := key
  unfold Ieee.Format.order
  rw [e]
  cases d with
  | nan s t => simp [Ieee.Datum.isNaN] at hn
  | infinity s => simp [Ieee.Datum.order, compare, compareOfLessAndEq]
  | number s m i => simp [Ieee.Datum.order, compare, compareOfLessAndEq]
theorem fl_same (n : Int) : Op.floatEq .f64 (fl n) (fl n) = true := by
  have h : ∃ neg r, r ≤ Ieee.Format.infRung FloatKind.f64.format ∧ fl n = Ieee.Format.word FloatKind.f64.format neg r := by
    unfold fl FloatKind.nearest FloatKind.encode Ieee.Format.write Ieee.Format.nearest
    dsimp only
    by_cases hz : n.natAbs = 0
    · rw [if_pos hz]
      exact ⟨_, 0, Nat.zero_le _, rfl⟩
    · rw [if_neg hz]
      exact ⟨_, _, Nat.min_le_right _ _, rfl⟩
  obtain ⟨neg, r, h1, h2⟩ := h
  unfold Op.floatEq
  rw [h2, order_word _ _ h1]
  rfl
end

section
open Go.RowKit Go.Sym

/-- A word that stands for an integer. -/
def IsN (w : Nat) (n : Int) : Prop := ∃ (s : Bool) (q : Nat), Ieee.Format.read FloatKind.f64.format w = .number s (n.natAbs * 2 ^ q) (-(q : Int)) ∧ (n ≠ 0 → (s = true ↔ n < 0))
theorem log2_mul_pow (N q : Nat) (h : N ≠ 0) : (N * 2 ^ q).log2 = N.log2 + q := by
  induction q with
  | zero => simp
  | succ q ih =>
    have e : N * 2 ^ (q + 1) = 2 * (N * 2 ^ q) := by rw [Nat.pow_succ, Nat.mul_comm (2 ^ q) 2, Nat.mul_left_comm]
    have h2 : N * 2 ^ q ≠ 0 := Nat.mul_ne_zero h (Nat.ne_of_gt (Nat.two_pow_pos q))
    rw [e, Nat.log2_two_mul h2, ih]; omega
theorem cut_none (neg : Bool) (n : Nat) : Ieee.Toward.cut .even neg n 0 = n := by
  unfold Ieee.Toward.cut
  simp [Nat.mod_one]
theorem cut_exact (neg : Bool) (M d : Nat) (h : M ≠ 0) : Ieee.Toward.cut .even neg (M * 2 ^ d) d = M := by
  have hl := log2_mul_pow M d h
  have hm : min d ((M * 2 ^ d).log2 + 2) = d := Nat.min_eq_left (by omega)
  have hp : 0 < 2 ^ d := Nat.two_pow_pos d
  unfold Ieee.Toward.cut
  simp only [hm, Nat.one_shiftLeft, Nat.mul_div_cancel _ hp, Nat.mul_mod_left]
  have e1 : decide (2 ^ d < 2 * 0) = false := decide_eq_false (by omega)
  have e2 : (2 ^ d == 2 * 0) = false := by
    have := Nat.two_pow_pos d
    simp
  simp [e1]
theorem rung_bound {d K : Nat} (k1 : K < 9007199254740992) : (1074 - d) * 4503599627370496 + K < 9218868437227405312 := by
  have : (1074 - d) * 4503599627370496 ≤ 1074 * 4503599627370496 := Nat.mul_le_mul_right _ (by omega)
  omega
theorem rung_mod {d K : Nat} (k0 : 4503599627370496 ≤ K) (k1 : K < 9007199254740992) : ((1074 - d) * 4503599627370496 + K) % 4503599627370496 = K - 4503599627370496 := by
  rw [Nat.add_comm, Nat.add_mul_mod_self_right]
  omega
theorem rung_div {d K : Nat} (k0 : 4503599627370496 ≤ K) (k1 : K < 9007199254740992) : ((1074 - d) * 4503599627370496 + K) / 4503599627370496 = 1074 - d + 1 := by
  rw [Nat.add_comm, Nat.add_mul_div_right _ _ (by decide)]
  have : K / 4503599627370496 = 1 := by omega
  omega
theorem nearest_gen (f : Ieee.Format) (lp : f.leastPlace = -1074) (fb : f.fractionBits = 52) (bn : f.binade = 4503599627370496) (ir : f.infRung = 9218868437227405312) (hsw : f.signWeight = 9223372036854775808) (neg : Bool) (N q : Nat) (h : N ≠ 0) (hN : N < 9007199254740992) :
    ∃ d : Nat, Ieee.Format.read f (Ieee.Format.nearest f neg (N * 2 ^ q) (-(q : Int))) = .number neg (N * 2 ^ d) (-(d : Int)) := by
  have hlog : N.log2 ≤ 52 := by
    have := (Nat.log2_lt (n := N) (k := 53) h).2 (by simpa using hN)
    omega
  refine ⟨52 - N.log2, ?_⟩
  have hd : 52 - N.log2 + N.log2 = 52 := by omega
  generalize hdd : 52 - N.log2 = d at *
  have hmag : N * 2 ^ q ≠ 0 := Nat.mul_ne_zero h (Nat.ne_of_gt (Nat.two_pow_pos q))
  have hl := log2_mul_pow N q h
  have hlast : max (-(q : Int) + ((N * 2 ^ q).log2 : Nat) - ((52 : Nat) : Int)) (-1074) = -(d : Int) := by rw [hl]; omega
  have k0 : 4503599627370496 ≤ N * 2 ^ d := by
    have h1 : 2 ^ N.log2 ≤ N := Nat.log2_self_le h
    have h2 : 2 ^ N.log2 * 2 ^ d ≤ N * 2 ^ d := Nat.mul_le_mul_right _ h1
    rw [← Nat.pow_add, show N.log2 + d = 52 by omega] at h2
    have e : (2 : Nat) ^ 52 = 4503599627370496 := by decide +kernel
    omega
  have k1 : N * 2 ^ d < 9007199254740992 := by
    have h1 : N < 2 ^ (N.log2 + 1) := Nat.lt_log2_self
    have h2 : N * 2 ^ d < 2 ^ (N.log2 + 1) * 2 ^ d := Nat.mul_lt_mul_of_pos_right h1 (Nat.two_pow_pos d)
    rw [← Nat.pow_add, show N.log2 + 1 + d = 53 by omega] at h2
    have e : (2 : Nat) ^ 53 = 9007199254740992 := by decide +kernel
    omega
  have hkept : Ieee.Toward.cut .even neg ((N * 2 ^ q) <<< (-(q : Int) - -(d : Int)).toNat) (-(d : Int) - -(q : Int)).toNat = N * 2 ^ d := by
    rcases Nat.le_total q d with hqd | hqd
    · have e1 : (-(q : Int) - -(d : Int)).toNat = d - q := by omega
      have e2 : (-(d : Int) - -(q : Int)).toNat = 0 := by omega
      rw [e1, e2, cut_none, Nat.shiftLeft_eq, Nat.mul_assoc, ← Nat.pow_add, show q + (d - q) = d by omega]
    · have e1 : (-(q : Int) - -(d : Int)).toNat = 0 := by omega
      have e2 : (-(d : Int) - -(q : Int)).toNat = q - d := by omega
      have e3 : N * 2 ^ q = N * 2 ^ d * 2 ^ (q - d) := by rw [Nat.mul_assoc, ← Nat.pow_add, show d + (q - d) = q by omega]
      rw [e1, e2, Nat.shiftLeft_zero, e3]
      exact cut_exact _ _ _ (by omega)
  have hrung : (-(d : Int) - -1074).toNat = 1074 - d := by omega
  have hmin : min ((1074 - d) * 4503599627370496 + N * 2 ^ d) (9218868437227405312) = (1074 - d) * 4503599627370496 + N * 2 ^ d := Nat.min_eq_left (Nat.le_of_lt (rung_bound k1))
  have hn : Ieee.Format.nearest f neg (N * 2 ^ q) (-(q : Int)) = Ieee.Format.word f neg ((1074 - d) * 4503599627370496 + N * 2 ^ d) := by
    unfold Ieee.Format.nearest
    rw [if_neg hmag]
    dsimp only
    rw [lp, fb, hlast, hkept, hrung, bn, ir, hmin]
  rw [hn]
  generalize hK : N * 2 ^ d = K at *
  have hlt := rung_bound (d := d) k1
  have hw := read_word f neg (r := (1074 - d) * 4503599627370496 + K) (by rw [hsw]; exact Nat.lt_trans hlt (by decide))
  have hmod := rung_mod (d := d) k0 k1
  have hdiv := rung_div (d := d) k0 k1
  have hnb : ¬ (1074 - d) * 4503599627370496 + K < 4503599627370496 := Nat.not_lt.2 (Nat.le_trans k0 (Nat.le_add_left _ _))
  have e1 : 4503599627370496 + (K - 4503599627370496) = K := Nat.add_sub_cancel' k0
  have e2 : (-1074 : Int) + ((1074 - d + 1 - 1 : Nat) : Int) = -(d : Int) := by
    clear hkept hmin hn hlt hw hmod hdiv hnb e1 k0 k1 hK hmag hl hlast hN
    omega
  unfold Ieee.Format.read
  dsimp only
  rw [hw.1, hw.2, bn, ir, lp, if_neg hnb, if_pos hlt, hmod, hdiv, e1, e2]
  cases neg <;> rfl
theorem nearest_exact (neg : Bool) (N q : Nat) (h : N ≠ 0) (hN : N < 9007199254740992) :
    ∃ d : Nat, Ieee.Format.read FloatKind.f64.format (Ieee.Format.nearest FloatKind.f64.format neg (N * 2 ^ q) (-(q : Int))) = .number neg (N * 2 ^ d) (-(d : Int)) :=
  nearest_gen FloatKind.f64.format (by decide +kernel) (by decide +kernel) (by decide +kernel) (by decide +kernel) (by decide +kernel) neg N q h hN
theorem nearest_zero (neg : Bool) (p : Int) : Ieee.Format.read FloatKind.f64.format (Ieee.Format.nearest FloatKind.f64.format neg 0 p) = .number neg 0 (-1074) := by
  have e : Ieee.Format.nearest FloatKind.f64.format neg 0 p = Ieee.Format.word FloatKind.f64.format neg 0 := by unfold Ieee.Format.nearest; rw [if_pos rfl]
  rw [e]
  cases neg <;> decide +kernel
theorem isN_nearest (neg : Bool) (n : Int) (q : Nat) (hN : n.natAbs < 9007199254740992) (hs : n ≠ 0 → (neg = true ↔ n < 0)) : IsN (Ieee.Format.nearest FloatKind.f64.format neg (n.natAbs * 2 ^ q) (-(q : Int))) n := by
  by_cases h : n = 0
  · subst h
    obtain ⟨Q, hQ⟩ : ∃ Q : Nat, Q = 1074 := ⟨_, rfl⟩
    refine ⟨neg, Q, ?_, fun h => absurd rfl h⟩
    rw [Int.natAbs_zero, Nat.zero_mul, nearest_zero, Nat.zero_mul, hQ]; rfl
  · obtain ⟨d, hd⟩ := nearest_exact neg n.natAbs q (by omega) hN
    exact ⟨neg, d, hd, hs⟩
theorem isN_fl (n : Int) (hN : n.natAbs < 9007199254740992) : IsN (fl n) n := by
  have := isN_nearest (decide (n < 0)) n 0 hN (fun _ => by simp)
  rw [Nat.pow_zero, Nat.mul_one] at this
  exact this
theorem isN_mul {x y : Nat} {a b : Int} (hx : IsN x a) (hy : IsN y b) (h : (a * b).natAbs < 9007199254740992) : ∃ w, FloatKind.f64.format.mul x y = some w ∧ IsN w (a * b) := by
  obtain ⟨s, i, h1, h2⟩ := hx
  obtain ⟨t, j, h3, h4⟩ := hy
  refine ⟨_, by unfold Ieee.Format.mul; rw [h1, h3]; rfl, ?_⟩
  have e1 : a.natAbs * 2 ^ i * (b.natAbs * 2 ^ j) = (a * b).natAbs * 2 ^ (i + j) := by
    rw [Int.natAbs_mul, Nat.pow_add, Nat.mul_mul_mul_comm]
  have e2 : -(i : Int) + -(j : Int) = -((i + j : Nat) : Int) := by omega
  show IsN (Ieee.Format.nearest FloatKind.f64.format (s ^^ t) (a.natAbs * 2 ^ i * (b.natAbs * 2 ^ j)) (-(i : Int) + -(j : Int))) (a * b)
  rw [e1, e2]
  refine isN_nearest _ _ _ h fun hne => ?_
  have ha : a ≠ 0 := fun e => hne (by rw [e, Int.zero_mul])
  have hb : b ≠ 0 := fun e => hne (by rw [e, Int.mul_zero])
  have g1 := h2 ha
  have g2 := h4 hb
  rcases Int.lt_or_gt_of_ne ha with ha | ha <;> rcases Int.lt_or_gt_of_ne hb with hb | hb
  · have := Int.mul_pos_of_neg_of_neg ha hb
    rw [g1.2 ha, g2.2 hb]; constructor
    · intro h; cases h
    · intro h; omega
  · have := Int.mul_neg_of_neg_of_pos ha hb
    have : t = false := by cases t; rfl; exact absurd (g2.1 rfl) (by omega)
    rw [g1.2 ha, this]; simp; omega
  · have := Int.mul_neg_of_pos_of_neg ha hb
    have : s = false := by cases s; rfl; exact absurd (g1.1 rfl) (by omega)
    rw [g2.2 hb, this]; simp; omega
  · have := Int.mul_pos ha hb
    have h5 : t = false := by cases t; rfl; exact absurd (g2.1 rfl) (by omega)
    have h6 : s = false := by cases s; rfl; exact absurd (g1.1 rfl) (by omega)
    rw [h5, h6]; simp; omega
/-- The value of a number at a lower place. -/
theorem signed_at {s : Bool} {a : Int} {i Q : Nat} (hs : a ≠ 0 → (s = true ↔ a < 0)) (hQ : i ≤ Q) : Ieee.signed s (a.natAbs * 2 ^ i) (-(i : Int) - -(Q : Int)).toNat = a * 2 ^ Q := by
  have e : (-(i : Int) - -(Q : Int)).toNat = Q - i := by omega
  have e2 : (a.natAbs * 2 ^ i) <<< (Q - i) = a.natAbs * 2 ^ Q := by rw [Nat.shiftLeft_eq, Nat.mul_assoc, ← Nat.pow_add, show i + (Q - i) = Q by omega]
  unfold Ieee.signed
  rw [e, e2]
  have hc : ((2 ^ Q : Nat) : Int) = 2 ^ Q := by norm_cast
  by_cases h : a = 0
  · subst h; simp
  · have g := hs h
    cases s with
    | true =>
      have ha := g.1 rfl
      rw [if_pos rfl, Int.natCast_mul, hc, ← Int.neg_mul]
      congr 1; omega
    | false =>
      have ha : ¬ a < 0 := fun h => by have := g.2 h; cases this
      rw [if_neg (by decide), Int.natCast_mul, hc]
      congr 1; omega
theorem natAbs_pow (n : Int) (Q : Nat) : (n * 2 ^ Q).natAbs = n.natAbs * 2 ^ Q := by
  have e : ((2 : Int) ^ Q) = ((2 ^ Q : Nat) : Int) := by norm_cast
  rw [Int.natAbs_mul, e, Int.natAbs_natCast]
theorem pow_pos2 (Q : Nat) : (0 : Int) < 2 ^ Q := Int.pow_pos (by decide)
theorem sum_is {s t : Bool} {a b : Int} {i j : Nat} (h2 : a ≠ 0 → (s = true ↔ a < 0)) (h4 : b ≠ 0 → (t = true ↔ b < 0)) (h : (a + b).natAbs < 9007199254740992) :
    ∃ d, Ieee.Datum.sum (.number s (a.natAbs * 2 ^ i) (-(i : Int))) (.number t (b.natAbs * 2 ^ j) (-(j : Int))) = some d ∧ IsN (Ieee.Format.write FloatKind.f64.format d) (a + b) := by
  have hbase : min (-(i : Int)) (-(j : Int)) = -((max i j : Nat) : Int) := by omega
  have k1 := signed_at (Q := max i j) h2 (Nat.le_max_left i j)
  have k2 := signed_at (Q := max i j) h4 (Nat.le_max_right i j)
  refine ⟨_, rfl, ?_⟩
  show IsN (Ieee.Format.nearest FloatKind.f64.format (if Ieee.signed s (a.natAbs * 2 ^ i) (-(i : Int) - min (-(i : Int)) (-(j : Int))).toNat + Ieee.signed t (b.natAbs * 2 ^ j) (-(j : Int) - min (-(i : Int)) (-(j : Int))).toNat = 0 then s && t else decide (Ieee.signed s (a.natAbs * 2 ^ i) (-(i : Int) - min (-(i : Int)) (-(j : Int))).toNat + Ieee.signed t (b.natAbs * 2 ^ j) (-(j : Int) - min (-(i : Int)) (-(j : Int))).toNat < 0)) (Ieee.signed s (a.natAbs * 2 ^ i) (-(i : Int) - min (-(i : Int)) (-(j : Int))).toNat + Ieee.signed t (b.natAbs * 2 ^ j) (-(j : Int) - min (-(i : Int)) (-(j : Int))).toNat).natAbs (min (-(i : Int)) (-(j : Int)))) (a + b)
  rw [hbase, k1, k2, ← Int.add_mul, natAbs_pow]
  generalize max i j = Q
  refine isN_nearest _ (a + b) Q h fun hne => ?_
  have hp := pow_pos2 Q
  have hz : (a + b) * 2 ^ Q ≠ 0 := Int.mul_ne_zero hne (by omega)
  rw [if_neg hz, decide_eq_true_eq]
  constructor
  · intro hlt
    rcases Int.lt_or_gt_of_ne hne with h | h
    · exact h
    · exact absurd (Int.mul_pos h hp) (by omega)
  · intro hlt
    exact Int.mul_neg_of_neg_of_pos hlt hp
theorem isN_add {x y : Nat} {a b : Int} (hx : IsN x a) (hy : IsN y b) (h : (a + b).natAbs < 9007199254740992) : ∃ w, FloatKind.f64.format.add x y = some w ∧ IsN w (a + b) := by
  obtain ⟨s, i, h1, h2⟩ := hx
  obtain ⟨t, j, h3, h4⟩ := hy
  obtain ⟨d, e1, e2⟩ := sum_is (i := i) (j := j) h2 h4 h
  exact ⟨_, by unfold Ieee.Format.add; rw [h1, h3, e1]; rfl, e2⟩
theorem isN_sub {x y : Nat} {a b : Int} (hx : IsN x a) (hy : IsN y b) (h : (a - b).natAbs < 9007199254740992) : ∃ w, FloatKind.f64.format.sub x y = some w ∧ IsN w (a - b) := by
  obtain ⟨s, i, h1, h2⟩ := hx
  obtain ⟨t, j, h3, h4⟩ := hy
  have h5 : -b ≠ 0 → ((!t) = true ↔ -b < 0) := by
    intro hne
    have g := h4 (by omega)
    cases t with
    | true => have := g.1 rfl; simp; omega
    | false =>
      have hb : ¬ b < 0 := fun hh => by have := g.2 hh; cases this
      simp; omega
  obtain ⟨d, e1, e2⟩ := sum_is (a := a) (b := -b) (i := i) (j := j) h2 h5 (by rw [← Int.sub_eq_add_neg]; exact h)
  rw [Int.natAbs_neg] at e1
  refine ⟨_, by unfold Ieee.Format.sub; rw [h1, h3]; show Option.map _ (Ieee.Datum.sum _ (.number (!t) _ _)) = _; rw [e1]; rfl, ?_⟩
  rw [Int.sub_eq_add_neg]; exact e2
theorem isN_eq {x y : Nat} {a : Int} (hx : IsN x a) (hy : IsN y a) : Op.floatEq .f64 x y = true := by
  obtain ⟨s, i, h1, h2⟩ := hx
  obtain ⟨t, j, h3, h4⟩ := hy
  have hbase : min (-(i : Int)) (-(j : Int)) = -((max i j : Nat) : Int) := by omega
  have k1 := signed_at (Q := max i j) h2 (Nat.le_max_left i j)
  have k2 := signed_at (Q := max i j) h4 (Nat.le_max_right i j)
  have e : FloatKind.f64.format.order x y = some .eq := by
    unfold Ieee.Format.order
    rw [h1, h3]
    show some (compare (Ieee.signed s _ (_ - min (-(i : Int)) (-(j : Int))).toNat) (Ieee.signed t _ (_ - min (-(i : Int)) (-(j : Int))).toNat)) = _
    rw [hbase, k1, k2]
    simp [compare, compareOfLessAndEq]
  unfold Op.floatEq
  rw [e]; rfl
end

section
open Go.RowKit Go.Sym

/-- Sums over the places of a wave. -/
def sumP (f : Int → Int) : Nat → Int
  | 0 => 0
  | n + 1 => sumP f n + f (n : Int)
theorem sumP_congr {f g : Int → Int} : ∀ n : Nat, (∀ i : Nat, i < n → f i = g i) → sumP f n = sumP g n
  | 0, _ => rfl
  | n + 1, h => by rw [sumP, sumP, sumP_congr n (fun i hi => h i (by omega)), h n (by omega)]
theorem sumP_lin (f g h : Int → Int) (u v w : Int) : ∀ n : Nat, sumP (fun i => u * f i + v * g i + w * h i) n = u * sumP f n + v * sumP g n + w * sumP h n
  | 0 => by simp [sumP]
  | n + 1 => by rw [sumP, sumP, sumP, sumP, sumP_lin f g h u v w n]; grind
theorem sumP_shift1 (f : Int → Int) : ∀ n : Nat, sumP (fun i => f (i + 1)) n = sumP f n + f n - f 0
  | 0 => by simp [sumP]
  | n + 1 => by rw [sumP, sumP_shift1 f n, sumP]; have : ((n + 1 : Nat) : Int) = n + 1 := by omega
                rw [this]; omega
theorem sumP_shift {f : Int → Int} {n : Nat} (hp : ∀ i, f (i + n) = f i) : ∀ c : Nat, sumP (fun i => f (i + c)) n = sumP f n
  | 0 => by simp
  | c + 1 => by
    have ih := sumP_shift hp c
    have h := sumP_shift1 (fun i => f (i + c)) n
    have e : (fun i : Int => f (i + 1 + c)) = fun i => f (i + ((c + 1 : Nat) : Int)) := by
      funext i; congr 1; omega
    have h2 : f ((n : Int) + c) = f (0 + c) := by
      have := hp (0 + (c : Int))
      rw [show (0 : Int) + c + n = n + c by omega] at this
      exact this
    have h := (show sumP (fun i => f (i + 1 + c)) n = _ from h)
    rw [e] at h
    rw [h, ih, h2]; omega
theorem sumP_back {f : Int → Int} {n : Nat} (hp : ∀ i, f (i + n) = f i) (c : Nat) : sumP (fun i => f (i + -(c : Int))) n = sumP f n := by
  have h := sumP_shift (f := fun i => f (i + -(c : Int))) (n := n) (fun i => by rw [show i + (n : Int) + -(c : Int) = i + -(c : Int) + n by omega, hp]) c
  rw [← h]
  refine sumP_congr n fun i _ => ?_
  show f ((i : Int) + c + -(c : Int)) = f (i : Int)
  congr 1; omega
theorem sumP_zero {f : Int → Int} : ∀ n : Nat, (∀ i : Nat, i < n → 0 ≤ f i) → sumP f n = 0 → ∀ i : Nat, i < n → f i = 0
  | 0, _, _, i, hi => by omega
  | n + 1, h, hs, i, hi => by
    have hn : ∀ m : Nat, m ≤ n → 0 ≤ sumP f m := by
      intro m
      induction m with
      | zero => intro _; exact Int.le_refl _
      | succ m ih => intro hm; have := ih (by omega); have := h m (by omega); rw [sumP]; omega
    have h1 := hn n (Nat.le_refl _)
    have h2 := h n (by omega)
    rw [sumP] at hs
    by_cases e : i = n
    · subst e; omega
    · exact sumP_zero n (fun i hi => h i (by omega)) (by omega) i (by omega)
theorem sq_nonneg (x : Int) : 0 ≤ x * x := by
  rcases Int.le_total 0 x with h | h
  · exact Int.mul_nonneg h h
  · have := Int.mul_nonneg_of_nonpos_of_nonpos h h; exact this
theorem sq_zero {x : Int} (h : x * x = 0) : x = 0 := by
  rcases Int.mul_eq_zero.1 h with h | h <;> exact h
/-- A wave that no place of it sees is moved onto itself by both arms. -/
theorem unseen {f : Int → Int} {n b a : Nat} (hb : 1 ≤ b) (ha : 1 ≤ a) (hp : ∀ i, f (i + n) = f i) (h : ∀ i : Nat, i < n → ((b : Int) + a) * f i - a * f (i + -(b : Int)) - b * f (i + a) = 0) :
    ∀ i : Nat, i < n → f (i + -(b : Int)) = f i ∧ f (i + a) = f i := by
  have h1 : sumP (fun i => f (i + -(b : Int)) * f (i + -(b : Int))) n = sumP (fun i => f i * f i) n := sumP_back (f := fun i => f i * f i) (fun i => by rw [hp]) b
  have h2 : sumP (fun i => f (i + (a : Int)) * f (i + (a : Int))) n = sumP (fun i => f i * f i) n := sumP_shift (f := fun i => f i * f i) (fun i => by rw [hp]) a
  have hs : sumP (fun i => (a : Int) * ((f i - f (i + -(b : Int))) * (f i - f (i + -(b : Int)))) + b * ((f i - f (i + (a : Int))) * (f i - f (i + (a : Int))))) n = 0 := by
    have e : sumP (fun i => (a : Int) * ((f i - f (i + -(b : Int))) * (f i - f (i + -(b : Int)))) + b * ((f i - f (i + (a : Int))) * (f i - f (i + (a : Int))))) n =
        sumP (fun i => -((a : Int) + b) * (f i * f i) + (a : Int) * (f (i + -(b : Int)) * f (i + -(b : Int))) + (b : Int) * (f (i + (a : Int)) * f (i + (a : Int)))) n := by
      refine sumP_congr n fun i hi => ?_
      have h3 := h i hi
      generalize f (i : Int) = x at *
      generalize f ((i : Int) + -(b : Int)) = y at *
      generalize f ((i : Int) + (a : Int)) = z at *
      generalize (a : Int) = A at *
      generalize (b : Int) = B at *
      grind
    rw [e, sumP_lin, h1, h2]; grind
  have hz := sumP_zero n (fun i _ => by
    have q1 := Int.mul_nonneg (show (0 : Int) ≤ a by omega) (sq_nonneg (f i - f (i + -(b : Int))))
    have q2 := Int.mul_nonneg (show (0 : Int) ≤ b by omega) (sq_nonneg (f i - f (i + (a : Int))))
    show (0 : Int) ≤ (a : Int) * _ + b * _
    omega) hs
  intro i hi
  have hz := hz i hi
  have q1 := Int.mul_nonneg (show (0 : Int) ≤ a by omega) (sq_nonneg (f i - f (i + -(b : Int))))
  have q2 := Int.mul_nonneg (show (0 : Int) ≤ b by omega) (sq_nonneg (f i - f (i + (a : Int))))
  have z1 : (a : Int) * ((f i - f (i + -(b : Int))) * (f i - f (i + -(b : Int)))) = 0 := by omega
  have z2 : (b : Int) * ((f i - f (i + (a : Int))) * (f i - f (i + (a : Int)))) = 0 := by omega
  have y1 := sq_zero ((Int.mul_eq_zero.1 z1).resolve_left (by omega))
  have y2 := sq_zero ((Int.mul_eq_zero.1 z2).resolve_left (by omega))
  omega

/-- Periods. -/
def Per (f : Int → Int) (m : Nat) : Prop := ∀ i, f (i + m) = f i
theorem per_mul {f : Int → Int} {m : Nat} (h : Per f m) : ∀ k : Nat, Per f (m * k)
  | 0 => fun i => by simp
  | k + 1 => fun i => by
    have := per_mul h k (i + m)
    rw [h i] at this
    rw [← this]; congr 1
    rw [Nat.mul_succ]; omega
theorem per_sub {f : Int → Int} {m n : Nat} (hm : Per f m) (hn : Per f n) (h : m ≤ n) : Per f (n - m) := fun i => by
  have h1 := hm (i + ((n - m : Nat) : Int))
  have h2 := hn i
  rw [show i + ((n - m : Nat) : Int) + (m : Int) = i + n by omega, h2] at h1
  exact h1.symm
theorem per_gcd {f : Int → Int} (m n : Nat) (hm : Per f m) (hn : Per f n) : Per f (Nat.gcd m n) := by
  induction m, n using Nat.gcd.induction with
  | H0 n => rwa [Nat.gcd_zero_left]
  | H1 m n hpos ih =>
    rw [Nat.gcd_rec]
    refine ih ?_ hm
    have e : n % m = n - m * (n / m) := by have := Nat.mod_add_div n m; omega
    rw [e]
    exact per_sub (per_mul hm _) hn (Nat.mul_div_le _ _)
theorem per_mod {f : Int → Int} {g : Nat} (hg : Per f g) (i : Nat) : f ((i % g : Nat) : Int) = f i := by
  have := per_mul hg (i / g) ((i % g : Nat) : Int)
  rw [← this]; congr 1
  have := Nat.mod_add_div i g
  omega
theorem atW_period (l : List Int) (i : Int) : atW l (i + (l.length : Int)) = atW l i := by
  unfold atW
  rw [Int.add_emod_right]
theorem atW_self {l : List Int} {i : Nat} (h : i < l.length) : atW l i = l.getD i 0 := by
  unfold atW
  rw [Int.emod_eq_of_lt (by omega) (by omega), Int.toNat_natCast]
theorem atW_mod (l : List Int) (i c : Int) : atW l (i + c) = atW l (i % (l.length : Int) + c) := by
  unfold atW
  rw [Int.emod_add_emod]
/-- Does a wave repeat so many places. -/
def perB (l : List Int) (g : Nat) : Bool := (List.range l.length).all fun i => decide (l.getD i 0 = l.getD (i % g) 0)
theorem perB_iff {l : List Int} {g : Nat} : perB l g = true ↔ ∀ i : Nat, i < l.length → l.getD i 0 = l.getD (i % g) 0 := by
  unfold perB
  rw [List.all_eq_true]
  constructor
  · intro h i hi
    exact of_decide_eq_true (h i (List.mem_range.2 hi))
  · intro h i hi
    exact decide_eq_true (h i (List.mem_range.1 hi))
theorem seesS_iff {b a : Int} {l : List Int} : seesS b a l = false ↔ ∀ p : Nat, p < l.length → (b + a) * atW l p - a * atW l (p + -b) - b * atW l (p + a) = 0 := by
  have e : ∀ p : Nat, seK b a l (p : Int) 3 = (b + a) * atW l p - a * atW l (p + -b) - b * atW l (p + a) := by
    intro p
    show 0 + (b + a) * atW l (p + 0) + -a * atW l (p + -b) + -b * atW l (p + a) = _
    rw [Int.add_zero, Int.neg_mul, Int.neg_mul]; omega
  constructor
  · intro h p hp
    unfold seesS at h
    rw [List.any_eq_false] at h
    have := h p (List.mem_range.2 hp)
    unfold seesP at this
    rw [← e]
    simpa using this
  · intro h
    refine seesS_false fun p hp => ?_
    unfold seesP
    rw [e, h p hp]; rfl
theorem sees_repeats {b a : Nat} {l : List Int} (hb : 1 ≤ b) (ha : 1 ≤ a) (hl : 1 ≤ l.length) : seesS b a l = !perB l (Nat.gcd (Nat.gcd b a) l.length) := by
  have key : seesS b a l = false ↔ perB l (Nat.gcd (Nat.gcd b a) l.length) = true := by
    rw [seesS_iff, perB_iff]
    constructor
    · intro h
      have hu := unseen (f := atW l) hb ha (atW_period l) h
      have hn : Per (atW l) l.length := atW_period l
      have hmod : ∀ i : Int, ∃ p : Nat, p < l.length ∧ i % (l.length : Int) = p := fun i => ⟨(i % (l.length : Int)).toNat, by
        have h1 := Int.emod_nonneg i (show (l.length : Int) ≠ 0 by omega)
        have h2 := Int.emod_lt_of_pos i (show (0 : Int) < (l.length : Int) by omega)
        omega, by
        have h1 := Int.emod_nonneg i (show (l.length : Int) ≠ 0 by omega)
        omega⟩
      have hA : Per (atW l) a := fun i => by
        obtain ⟨p, h1, h2⟩ := hmod i
        have e1 := atW_mod l i a
        have e2 := atW_mod l i 0
        rw [Int.add_zero, Int.add_zero] at e2
        rw [e1, e2, h2]
        exact (hu p h1).2
      have hB : Per (atW l) b := fun i => by
        obtain ⟨p, h1, h2⟩ := hmod (i + b)
        have e1 := atW_mod l (i + b) (-(b : Int))
        have e2 := atW_mod l (i + b) 0
        rw [Int.add_zero, Int.add_zero] at e2
        rw [show i + (b : Int) + -(b : Int) = i by omega] at e1
        rw [e1, e2, h2]
        exact (hu p h1).1.symm
      have hg := per_gcd _ _ (per_gcd _ _ hB hA) hn
      intro i hi
      have := per_mod hg i
      have hgl : i % Nat.gcd (Nat.gcd b a) l.length ≤ i := Nat.mod_le _ _
      rw [atW_self hi, atW_self (by omega)] at this
      exact this.symm
    · intro h
      have hg0 : 0 < Nat.gcd (Nat.gcd b a) l.length := Nat.gcd_pos_of_pos_right _ hl
      have hgn : (Nat.gcd (Nat.gcd b a) l.length) ∣ l.length := Nat.gcd_dvd_right _ _
      have hgb : (Nat.gcd (Nat.gcd b a) l.length) ∣ b := Nat.dvd_trans (Nat.gcd_dvd_left _ _) (Nat.gcd_dvd_left _ _)
      have hga : (Nat.gcd (Nat.gcd b a) l.length) ∣ a := Nat.dvd_trans (Nat.gcd_dvd_left _ _) (Nat.gcd_dvd_right _ _)
      generalize Nat.gcd (Nat.gcd b a) l.length = g at *
      have hat : ∀ i : Int, atW l i = l.getD (i % (g : Int)).toNat 0 := by
        intro i
        have h1 := Int.emod_nonneg i (show (l.length : Int) ≠ 0 by omega)
        have h2 := Int.emod_lt_of_pos i (show (0 : Int) < (l.length : Int) by omega)
        unfold atW
        rw [h (i % (l.length : Int)).toNat (by omega)]
        congr 1
        have e : (i % (l.length : Int)) % (g : Int) = i % (g : Int) := Int.emod_emod_of_dvd i (Int.natCast_dvd_natCast.2 hgn)
        have h3 : (((i % (l.length : Int)).toNat % g : Nat) : Int) = i % (g : Int) := by
          rw [Int.natCast_emod, Int.toNat_of_nonneg h1, e]
        omega
      intro p hp
      have e1 : ((p : Int) + -(b : Int)) % (g : Int) = (p : Int) % (g : Int) := by
        obtain ⟨c, rfl⟩ := hgb
        rw [Int.natCast_mul, ← Int.mul_neg, Int.add_mul_emod_self_left]
      have e2 : ((p : Int) + (a : Int)) % (g : Int) = (p : Int) % (g : Int) := by
        obtain ⟨c, rfl⟩ := hga
        rw [Int.natCast_mul, Int.add_mul_emod_self_left]
      rw [hat, hat, hat, e1, e2]
      generalize l.getD ((p : Int) % (g : Int)).toNat 0 = x
      generalize (a : Int) = A
      generalize (b : Int) = B
      grind
  cases h1 : seesS b a l <;> cases h2 : perB l (Nat.gcd (Nat.gcd b a) l.length) <;> simp_all
end

section
open Go.RowKit Go.Sym

theorem powR_ng (n : Int) : powR ((-n) % 4) = powR (n % 4) := by
  obtain hr | hr | hr | hr : n % 4 = 0 ∨ n % 4 = 1 ∨ n % 4 = 2 ∨ n % 4 = 3 := by omega
  · have : (-n) % 4 = 0 := by omega
    rw [hr, this]
  · have : (-n) % 4 = 3 := by omega
    rw [hr, this]; rfl
  · have : (-n) % 4 = 2 := by omega
    rw [hr, this]
  · have : (-n) % 4 = 1 := by omega
    rw [hr, this]; rfl
theorem powI_ng (n : Int) : powI ((-n) % 4) = -powI (n % 4) := by
  obtain hr | hr | hr | hr : n % 4 = 0 ∨ n % 4 = 1 ∨ n % 4 = 2 ∨ n % 4 = 3 := by omega
  · have : (-n) % 4 = 0 := by omega
    rw [hr, this]; rfl
  · have : (-n) % 4 = 3 := by omega
    rw [hr, this]; rfl
  · have : (-n) % 4 = 2 := by omega
    rw [hr, this]; rfl
  · have : (-n) % 4 = 1 := by omega
    rw [hr, this]; rfl
theorem tR_turned (b a k : Int) : tR a b k = tR b a k := by
  have e1 : -k * a = -(k * a) := Int.neg_mul k a
  have e2 : -k * b = -(k * b) := Int.neg_mul k b
  unfold tR
  rw [e1, e2, powR_ng, powR_ng]
  omega
theorem tI_turned (b a k : Int) : tI a b k = -tI b a k := by
  have e1 : -k * a = -(k * a) := Int.neg_mul k a
  have e2 : -k * b = -(k * b) := Int.neg_mul k b
  unfold tI
  rw [e1, e2, powI_ng, powI_ng]
  grind

/-- Four values, repeated. -/
def quad (x0 x1 x2 x3 i : Int) : Int := if i % 4 = 0 then x0 else if i % 4 = 1 then x1 else if i % 4 = 2 then x2 else x3
theorem quad_0 {x0 x1 x2 x3 i : Int} (h : i % 4 = 0) : quad x0 x1 x2 x3 i = x0 := by unfold quad; rw [if_pos h]
theorem quad_1 {x0 x1 x2 x3 i : Int} (h : i % 4 = 1) : quad x0 x1 x2 x3 i = x1 := by unfold quad; rw [if_neg (by omega), if_pos h]
theorem quad_2 {x0 x1 x2 x3 i : Int} (h : i % 4 = 2) : quad x0 x1 x2 x3 i = x2 := by unfold quad; rw [if_neg (by omega), if_neg (by omega), if_pos h]
theorem quad_3 {x0 x1 x2 x3 i : Int} (h : i % 4 = 3) : quad x0 x1 x2 x3 i = x3 := by unfold quad; rw [if_neg (by omega), if_neg (by omega), if_neg (by omega)]
theorem fR_0 (w x y z : Int) : fR [w, x, y, z] 0 4 = w + x + y + z := by
  show 0 + w * 1 + x * 1 + y * 1 + z * 1 = _; omega
theorem fI_0 (w x y z : Int) : fI [w, x, y, z] 0 4 = 0 := by
  show 0 + w * 0 + x * 0 + y * 0 + z * 0 = _; omega
theorem fR_1 (w x y z : Int) : fR [w, x, y, z] 1 4 = w - y := by
  show 0 + w * 1 + x * 0 + y * -1 + z * 0 = _; omega
theorem fI_1 (w x y z : Int) : fI [w, x, y, z] 1 4 = z - x := by
  show 0 + w * 0 + x * -1 + y * 0 + z * 1 = _; omega
theorem fR_2 (w x y z : Int) : fR [w, x, y, z] 2 4 = w - x + y - z := by
  show 0 + w * 1 + x * -1 + y * 1 + z * -1 = _; omega
theorem fI_2 (w x y z : Int) : fI [w, x, y, z] 2 4 = 0 := by
  show 0 + w * 0 + x * 0 + y * 0 + z * 0 = _; omega
theorem fR_3 (w x y z : Int) : fR [w, x, y, z] 3 4 = w - y := by
  show 0 + w * 1 + x * 0 + y * -1 + z * 0 = _; omega
theorem fI_3 (w x y z : Int) : fI [w, x, y, z] 3 4 = x - z := by
  show 0 + w * 0 + x * 1 + y * 0 + z * -1 = _; omega
/-- A transform of values that are moved. -/
theorem f_moved (x0 x1 x2 x3 c : Int) (k : Int) (hk : k = 0 ∨ k = 1 ∨ k = 2 ∨ k = 3) :
    fR [quad x0 x1 x2 x3 (0 + c), quad x0 x1 x2 x3 (1 + c), quad x0 x1 x2 x3 (2 + c), quad x0 x1 x2 x3 (3 + c)] k 4 = powR ((k * c) % 4) * fR [x0, x1, x2, x3] k 4 - powI ((k * c) % 4) * fI [x0, x1, x2, x3] k 4 ∧
    fI [quad x0 x1 x2 x3 (0 + c), quad x0 x1 x2 x3 (1 + c), quad x0 x1 x2 x3 (2 + c), quad x0 x1 x2 x3 (3 + c)] k 4 = powR ((k * c) % 4) * fI [x0, x1, x2, x3] k 4 + powI ((k * c) % 4) * fR [x0, x1, x2, x3] k 4 := by
  obtain hr | hr | hr | hr : c % 4 = 0 ∨ c % 4 = 1 ∨ c % 4 = 2 ∨ c % 4 = 3 := by omega
  · rw [quad_0 (show (0 + c) % 4 = 0 by omega), quad_1 (show (1 + c) % 4 = 1 by omega), quad_2 (show (2 + c) % 4 = 2 by omega), quad_3 (show (3 + c) % 4 = 3 by omega)]
    have hp : (k * c) % 4 = 0 := by rcases hk with rfl | rfl | rfl | rfl <;> omega
    rw [hp]
    have e1 : powR 0 = 1 := rfl
    have e2 : powI 0 = 0 := rfl
    rw [e1, e2]
    constructor <;> omega
  · rw [quad_1 (show (0 + c) % 4 = 1 by omega), quad_2 (show (1 + c) % 4 = 2 by omega), quad_3 (show (2 + c) % 4 = 3 by omega), quad_0 (show (3 + c) % 4 = 0 by omega)]
    have hp : (k * c) % 4 = k := by rcases hk with rfl | rfl | rfl | rfl <;> omega
    rw [hp]
    rcases hk with rfl | rfl | rfl | rfl
    · simp only [fR_0, fI_0, show powR 0 = 1 from rfl, show powI 0 = 0 from rfl]; constructor <;> omega
    · simp only [fR_1, fI_1, show powR 1 = 0 from rfl, show powI 1 = 1 from rfl]; constructor <;> omega
    · simp only [fR_2, fI_2, show powR 2 = -1 from rfl, show powI 2 = 0 from rfl]; constructor <;> omega
    · simp only [fR_3, fI_3, show powR 3 = 0 from rfl, show powI 3 = -1 from rfl]; constructor <;> omega
  · rw [quad_2 (show (0 + c) % 4 = 2 by omega), quad_3 (show (1 + c) % 4 = 3 by omega), quad_0 (show (2 + c) % 4 = 0 by omega), quad_1 (show (3 + c) % 4 = 1 by omega)]
    rcases hk with rfl | rfl | rfl | rfl
    · have hp : ((0 : Int) * c) % 4 = 0 := by omega
      simp only [hp, fR_0, fI_0, show powR 0 = 1 from rfl, show powI 0 = 0 from rfl]; constructor <;> omega
    · have hp : ((1 : Int) * c) % 4 = 2 := by omega
      simp only [hp, fR_1, fI_1, show powR 2 = -1 from rfl, show powI 2 = 0 from rfl]; constructor <;> omega
    · have hp : ((2 : Int) * c) % 4 = 0 := by omega
      simp only [hp, fR_2, fI_2, show powR 0 = 1 from rfl, show powI 0 = 0 from rfl]; constructor <;> omega
    · have hp : ((3 : Int) * c) % 4 = 2 := by omega
      simp only [hp, fR_3, fI_3, show powR 2 = -1 from rfl, show powI 2 = 0 from rfl]; constructor <;> omega
  · rw [quad_3 (show (0 + c) % 4 = 3 by omega), quad_0 (show (1 + c) % 4 = 0 by omega), quad_1 (show (2 + c) % 4 = 1 by omega), quad_2 (show (3 + c) % 4 = 2 by omega)]
    rcases hk with rfl | rfl | rfl | rfl
    · have hp : ((0 : Int) * c) % 4 = 0 := by omega
      simp only [hp, fR_0, fI_0, show powR 0 = 1 from rfl, show powI 0 = 0 from rfl]; constructor <;> omega
    · have hp : ((1 : Int) * c) % 4 = 3 := by omega
      simp only [hp, fR_1, fI_1, show powR 3 = 0 from rfl, show powI 3 = -1 from rfl]; constructor <;> omega
    · have hp : ((2 : Int) * c) % 4 = 2 := by omega
      simp only [hp, fR_2, fI_2, show powR 2 = -1 from rfl, show powI 2 = 0 from rfl]; constructor <;> omega
    · have hp : ((3 : Int) * c) % 4 = 1 := by omega
      simp only [hp, fR_3, fI_3, show powR 1 = 0 from rfl, show powI 1 = 1 from rfl]; constructor <;> omega
theorem fR_lin (u v w p0 p1 p2 p3 q0 q1 q2 q3 r0 r1 r2 r3 : Int) (k : Int) : fR [u * p0 - v * q0 - w * r0, u * p1 - v * q1 - w * r1, u * p2 - v * q2 - w * r2, u * p3 - v * q3 - w * r3] k 4 = u * fR [p0, p1, p2, p3] k 4 - v * fR [q0, q1, q2, q3] k 4 - w * fR [r0, r1, r2, r3] k 4 := by
  simp only [fR, List.getD_cons_zero, List.getD_cons_succ]
  grind
theorem fI_lin (u v w p0 p1 p2 p3 q0 q1 q2 q3 r0 r1 r2 r3 : Int) (k : Int) : fI [u * p0 - v * q0 - w * r0, u * p1 - v * q1 - w * r1, u * p2 - v * q2 - w * r2, u * p3 - v * q3 - w * r3] k 4 = u * fI [p0, p1, p2, p3] k 4 - v * fI [q0, q1, q2, q3] k 4 - w * fI [r0, r1, r2, r3] k 4 := by
  simp only [fI, List.getD_cons_zero, List.getD_cons_succ]
  grind
/-- A versine of four values that are repeated. -/
def verQ (b a x0 x1 x2 x3 j : Int) : Int := (b + a) * quad x0 x1 x2 x3 j - a * quad x0 x1 x2 x3 (j + -b) - b * quad x0 x1 x2 x3 (j + a)
theorem panel_law (b a x0 x1 x2 x3 k : Int) (hk : k = 0 ∨ k = 1 ∨ k = 2 ∨ k = 3) :
    fR [verQ b a x0 x1 x2 x3 0, verQ b a x0 x1 x2 x3 1, verQ b a x0 x1 x2 x3 2, verQ b a x0 x1 x2 x3 3] k 4 = tR b a k * fR [x0, x1, x2, x3] k 4 - tI b a k * fI [x0, x1, x2, x3] k 4 ∧
    fI [verQ b a x0 x1 x2 x3 0, verQ b a x0 x1 x2 x3 1, verQ b a x0 x1 x2 x3 2, verQ b a x0 x1 x2 x3 3] k 4 = tR b a k * fI [x0, x1, x2, x3] k 4 + tI b a k * fR [x0, x1, x2, x3] k 4 := by
  have h0 : quad x0 x1 x2 x3 0 = x0 := quad_0 rfl
  have h1 : quad x0 x1 x2 x3 1 = x1 := quad_1 rfl
  have h2 : quad x0 x1 x2 x3 2 = x2 := quad_2 rfl
  have h3 : quad x0 x1 x2 x3 3 = x3 := quad_3 rfl
  have m1 := f_moved x0 x1 x2 x3 (-b) k hk
  have m2 := f_moved x0 x1 x2 x3 a k hk
  have e : k * -b = -k * b := by rw [Int.mul_neg, Int.neg_mul]
  rw [e] at m1
  unfold verQ tR tI
  rw [h0, h1, h2, h3, fR_lin, fI_lin, m1.1, m1.2, m2.1, m2.2]
  generalize fR [x0, x1, x2, x3] k 4 = X
  generalize fI [x0, x1, x2, x3] k 4 = Y
  generalize powR (-k * b % 4) = p
  generalize powI (-k * b % 4) = q
  generalize powR (k * a % 4) = r
  generalize powI (k * a % 4) = s
  constructor <;> grind
end

section
open Go.RowKit Go.Sym

theorem knS_in {n : Nat} (hs : List (Int × Int)) {i : Nat} (h : i < n) : (knS n hs).getD i false = knownB hs i := by
  rw [List.getD_eq_getElem?_getD, knS_get _ _ _ h]; rfl
def hasB (l : List Int) (n : Int) : Bool := l.any fun x => decide (x = n)
theorem hasB_true {l : List Int} {n : Int} : hasB l n = true ↔ n ∈ l := by
  unfold hasB
  rw [List.any_eq_true]
  constructor
  · rintro ⟨x, hx, h⟩
    exact of_decide_eq_true h ▸ hx
  · intro h
    exact ⟨n, h, decide_eq_true rfl⟩
def HasInt_i (l : List Int) (n : Int) (σ : Ren) : Inst := { f := 49, hin := [(0, .ro l.length 1 (.ints .i64 l))], args := [.sl 0 l.length, i64 n], hout := [], ret := bl (hasB l n), σ := σ }
set_option maxHeartbeats 1000000 in
theorem HasInt_s (l : List Int) (n : Int) (σ : Ren) (hl : l.length ≤ 1000000) : (HasInt_i l n σ).ok Tryd.prog := by
  unfold HasInt_i Inst.ok; dsimp only; refine spec_of_body (tys := tys) 1 Tryd.func49 (by kernel_rfl) rfl tys_ok rfl (Nat.le_of_ble_eq_true rfl) (fun _ _ h => (by cases h)) fun F hP hm hC => ?_; conv => whnf
  repeat first | refine lwp_seq fun K hK => ?_ | ((with_reducible refine thenS_normal ?_); apply_assumption -exfalso -symm) | refine thenS_exit ?_ | refine thenS_ret ?_ | refine inBlockS_normal ?_ | refine inBlockS_ret ?_ | refine inBlockS_hit rfl ?_ | refine inBlockS_miss rfl ?_ | refine lwp_block ?_ | refine lwp_skip ?_ | refine lwp_exit ?_ | refine lwp_ret ?_ | refine lwp_label ?_ | refine lwp_region hC ⟨[], [], []⟩ (told0 _ _) rfl True.intro ?_ | refine lwp_region hC ⟨[], [], []⟩ (told0 _ _) rfl (by ((try simp only [AllL, All, cd_p, cp_p, cv_p, InK, and_true, true_and]); all_goals ((repeat' (first | refine And.intro ?_ ?_ | intro _)) <;> first | omega | exact True.intro | assumption | (simp; done) | rfl | (simp_all; done) | (simp_all; omega)))) ?_
  refine lwp_loop (fun k : Nat => ⟨[(5, i64 k), (1, i64 n), (0, .sl 0 l.length)], [(0, .ro l.length 1 (.ints .i64 l))], 1⟩) (fun k => k ≤ l.length ∧ ∀ i : Nat, i < k → ¬ l.getD i 0 = n) (fun k => l.length - k) 0 ⟨?_, sub_intro hm [(0, some 0)] rfl ?_⟩ ?_
  · exact ⟨Nat.zero_le _, fun i hi => absurd hi (Nat.not_lt_zero _)⟩
  · ((try simp only [AllL, All, cd_p, cp_p, cv_p, InK, and_true, true_and]); all_goals ((repeat' (first | refine And.intro ?_ ?_ | intro _)) <;> first | omega | exact True.intro | assumption | (simp; done) | rfl | (simp_all; done) | (simp_all; omega)))
  rintro k ⟨hk, hf⟩
  have hkk : ((k : Int)).toNat = k := Int.toNat_natCast k
  have HF := Lib.hid hf
  clear hf
  repeat first | refine lwp_seq fun K hK => ?_ | ((with_reducible refine thenS_normal ?_); apply_assumption -exfalso -symm) | refine thenS_exit ?_ | refine thenS_ret ?_ | refine inBlockS_normal ?_ | refine inBlockS_ret ?_ | refine inBlockS_hit rfl ?_ | refine inBlockS_miss rfl ?_ | refine lwp_block ?_ | refine lwp_skip ?_ | refine lwp_exit ?_ | refine lwp_ret ?_ | refine lwp_label ?_ | refine lwp_region hC ⟨[], [], []⟩ (told0 _ _) rfl True.intro ?_ | refine lwp_region hC ⟨[], [], []⟩ (told0 _ _) rfl (by ((try simp only [AllL, All, cd_p, cp_p, cv_p, InK, and_true, true_and]); all_goals ((repeat' (first | refine And.intro ?_ ?_ | intro _)) <;> first | omega | exact True.intro | assumption | (simp; done) | rfl | (simp_all; done) | (simp_all; omega)))) ?_
  (refine lwp_cond hC rfl (by first | exact True.intro | ((try simp only [AllL, All, cd_p, cp_p, cv_p, InK, and_true, true_and]); all_goals ((repeat' (first | refine And.intro ?_ ?_ | intro _)) <;> first | omega | exact True.intro | assumption | (simp; done) | rfl | (simp_all; done) | (simp_all; omega)))) (fun hb => ?_) (fun hb => ?_) <;> (try simp only [decide_eq_true_eq, decide_eq_false_iff_not, Bool.not_eq_true', Bool.not_eq_false', ne_eq, Decidable.not_not] at hb))
  · have hk2 : k < l.length := by omega
    clear hb
    repeat first | refine lwp_seq fun K hK => ?_ | ((with_reducible refine thenS_normal ?_); apply_assumption -exfalso -symm) | refine thenS_exit ?_ | refine thenS_ret ?_ | refine inBlockS_normal ?_ | refine inBlockS_ret ?_ | refine inBlockS_hit rfl ?_ | refine inBlockS_miss rfl ?_ | refine lwp_block ?_ | refine lwp_skip ?_ | refine lwp_exit ?_ | refine lwp_ret ?_ | refine lwp_label ?_ | refine lwp_region hC ⟨[], [], []⟩ (told0 _ _) rfl True.intro ?_ | refine lwp_region hC ⟨[], [], []⟩ (told0 _ _) rfl (by ((try simp only [AllL, All, cd_p, cp_p, cv_p, InK, and_true, true_and]); all_goals ((repeat' (first | refine And.intro ?_ ?_ | intro _)) <;> first | omega | exact True.intro | assumption | (simp; done) | rfl | (simp_all; done) | (simp_all; omega)))) ?_
    (refine lwp_cond hC rfl (by first | exact True.intro | ((try simp only [AllL, All, cd_p, cp_p, cv_p, InK, and_true, true_and]); all_goals ((repeat' (first | refine And.intro ?_ ?_ | intro _)) <;> first | omega | exact True.intro | assumption | (simp; done) | rfl | (simp_all; done) | (simp_all; omega)))) (fun hb => ?_) (fun hb => ?_) <;> (try simp only [decide_eq_true_eq, decide_eq_false_iff_not, Bool.not_eq_true', Bool.not_eq_false', ne_eq, Decidable.not_not] at hb))
    · simp only [hkk] at hb
      have hS : hasB l n = true := by
        rw [hasB_true, ← hb, List.getD_eq_getElem?_getD, List.getElem?_eq_getElem hk2]
        exact List.getElem_mem hk2
      repeat first | refine lwp_seq fun K hK => ?_ | ((with_reducible refine thenS_normal ?_); apply_assumption -exfalso -symm) | refine thenS_exit ?_ | refine thenS_ret ?_ | refine inBlockS_normal ?_ | refine inBlockS_ret ?_ | refine inBlockS_hit rfl ?_ | refine inBlockS_miss rfl ?_ | refine lwp_block ?_ | refine lwp_skip ?_ | refine lwp_exit ?_ | refine lwp_ret ?_ | refine lwp_label ?_ | refine lwp_region hC ⟨[], [], []⟩ (told0 _ _) rfl True.intro ?_ | refine lwp_region hC ⟨[], [], []⟩ (told0 _ _) rfl (by ((try simp only [AllL, All, cd_p, cp_p, cv_p, InK, and_true, true_and]); all_goals ((repeat' (first | refine And.intro ?_ ?_ | intro _)) <;> first | omega | exact True.intro | assumption | (simp; done) | rfl | (simp_all; done) | (simp_all; omega)))) ?_
      rw [hS]
      (refine end_intro (by first | exact .inr rfl | exact .inl rfl) [] rfl ?_)
      ((try simp only [AllL, All, cd_p, cp_p, cv_p, InK, and_true, true_and]); all_goals ((repeat' (first | refine And.intro ?_ ?_ | intro _)) <;> first | omega | exact True.intro | assumption | (simp; done) | rfl | (simp_all; done) | (simp_all; omega)))
    · simp only [hkk] at hb
      have hall : ∀ i : Nat, i < k + 1 → ¬ l.getD i 0 = n := by
        intro i hi
        by_cases e : i = k
        · subst e; exact hb
        · exact HF.out i (by omega)
      have HA := Lib.hid hall
      clear hall hb
      repeat first | refine lwp_seq fun K hK => ?_ | ((with_reducible refine thenS_normal ?_); apply_assumption -exfalso -symm) | refine thenS_exit ?_ | refine thenS_ret ?_ | refine inBlockS_normal ?_ | refine inBlockS_ret ?_ | refine inBlockS_hit rfl ?_ | refine inBlockS_miss rfl ?_ | refine lwp_block ?_ | refine lwp_skip ?_ | refine lwp_exit ?_ | refine lwp_ret ?_ | refine lwp_label ?_ | refine lwp_region hC ⟨[], [], []⟩ (told0 _ _) rfl True.intro ?_ | refine lwp_region hC ⟨[], [], []⟩ (told0 _ _) rfl (by ((try simp only [AllL, All, cd_p, cp_p, cv_p, InK, and_true, true_and]); all_goals ((repeat' (first | refine And.intro ?_ ?_ | intro _)) <;> first | omega | exact True.intro | assumption | (simp; done) | rfl | (simp_all; done) | (simp_all; omega)))) ?_
      refine thenS_normal ⟨k + 1, ?_, ?_, sub_intro hm [(0, some 0)] rfl ?_⟩
      · exact ⟨hk2, HA.out⟩
      · omega
      · ((try simp only [AllL, All, cd_p, cp_p, cv_p, InK, and_true, true_and]); all_goals ((repeat' (first | refine And.intro ?_ ?_ | intro _)) <;> first | omega | exact True.intro | assumption | (simp; done) | rfl | (simp_all; done) | (simp_all; omega)))
  · have hS : hasB l n = false := by
      rw [Bool.eq_false_iff]
      intro h
      rw [hasB_true] at h
      obtain ⟨i, hi, rfl⟩ := List.mem_iff_getElem.1 h
      refine HF.out i (by omega) ?_
      rw [List.getD_eq_getElem?_getD, List.getElem?_eq_getElem hi]; rfl
    repeat first | refine lwp_seq fun K hK => ?_ | ((with_reducible refine thenS_normal ?_); apply_assumption -exfalso -symm) | refine thenS_exit ?_ | refine thenS_ret ?_ | refine inBlockS_normal ?_ | refine inBlockS_ret ?_ | refine inBlockS_hit rfl ?_ | refine inBlockS_miss rfl ?_ | refine lwp_block ?_ | refine lwp_skip ?_ | refine lwp_exit ?_ | refine lwp_ret ?_ | refine lwp_label ?_ | refine lwp_region hC ⟨[], [], []⟩ (told0 _ _) rfl True.intro ?_ | refine lwp_region hC ⟨[], [], []⟩ (told0 _ _) rfl (by ((try simp only [AllL, All, cd_p, cp_p, cv_p, InK, and_true, true_and]); all_goals ((repeat' (first | refine And.intro ?_ ?_ | intro _)) <;> first | omega | exact True.intro | assumption | (simp; done) | rfl | (simp_all; done) | (simp_all; omega)))) ?_
    rw [hS]
    (refine end_intro (by first | exact .inr rfl | exact .inl rfl) [] rfl ?_)
    ((try simp only [AllL, All, cd_p, cp_p, cv_p, InK, and_true, true_and]); all_goals ((repeat' (first | refine And.intro ?_ ?_ | intro _)) <;> first | omega | exact True.intro | assumption | (simp; done) | rfl | (simp_all; done) | (simp_all; omega)))
def BTurned_i (b a : Int) : Inst := { f := 51, hin := [], args := [.agg [i64 b, i64 a]], hout := [], ret := .tup [.agg [i64 a, i64 b], i64 0], σ := [] }
theorem BTurned_s (b a : Int) (h : chordS b a = 0) : (BTurned_i b a).ok Tryd.prog := by
  refine ⟨⟨_, Tryd.func51, rfl⟩, fun ρ w vs hdom _ hh hd => ?_⟩
  simp only [BTurned_i, AV.denL, AV.den, Option.map_some, listO, Option.some.injEq] at hd
  subst hd
  refine (Turned_c b a w).mono ?_
  rintro e w' ⟨he, hb⟩
  rw [h, if_pos rfl] at he
  subst he
  exact post_of_lit hb

/-- The blind periods that two chords share. -/
theorem refL_mem {b a d e x : Int} : x ∈ refL b a d e 31 ↔ (2 ≤ x ∧ x ≤ 32) ∧ divAll b a d e x = true := by
  unfold refL
  rw [List.mem_filter, List.mem_map]
  constructor
  · rintro ⟨⟨j, hj, rfl⟩, h⟩
    have := List.mem_range.1 hj
    exact ⟨by omega, h⟩
  · rintro ⟨h1, h2⟩
    exact ⟨⟨(x - 2).toNat, List.mem_range.2 (by omega), by omega⟩, h2⟩
theorem divAll_iff {b a d e x : Int} : divAll b a d e x = true ↔ b.tmod x = 0 ∧ a.tmod x = 0 ∧ d.tmod x = 0 ∧ e.tmod x = 0 := by
  unfold divAll
  simp only [Bool.and_eq_true, decide_eq_true_eq, and_assoc]
theorem shared_eq (b a d e : Int) : (refL b a b a 31).filter (hasB (refL d e d e 31)) = refL b a d e 31 := by
  unfold refL
  rw [List.filter_filter]
  refine List.filter_congr fun x hx => ?_
  have hr : 2 ≤ x ∧ x ≤ 32 := by
    obtain ⟨j, hj, rfl⟩ := List.mem_map.1 hx
    have := List.mem_range.1 hj
    omega
  have h1 : hasB (((List.range 31).map fun (j : Nat) => (j : Int) + 2).filter (divAll d e d e)) x = true ↔ divAll d e d e x = true := by
    rw [hasB_true]
    have := refL_mem (b := d) (a := e) (d := d) (e := e) (x := x)
    unfold refL at this
    rw [this]
    exact ⟨fun h => h.2, fun h => ⟨hr, h⟩⟩
  rw [Bool.eq_iff_iff, Bool.and_eq_true, h1, divAll_iff, divAll_iff, divAll_iff]
  constructor
  · rintro ⟨⟨h1, h2, _, _⟩, h3, h4, _, _⟩; exact ⟨h3, h4, h1, h2⟩
  · rintro ⟨h1, h2, h3, h4⟩; exact ⟨⟨h3, h4, h3, h4⟩, h1, h2, h1, h2⟩
theorem tmod_dvd {b n : Nat} : (b : Int).tmod (n : Int) = 0 ↔ n ∣ b := by
  rw [← Int.ofNat_tmod, Int.natCast_eq_zero, Nat.dvd_iff_mod_eq_zero]
theorem blind_pos {b a : Nat} (hb : 1 ≤ b) (hb2 : b ≤ 32) (ha : 1 ≤ a) : decide ((1 : Int) < (Nat.gcd b a : Nat)) = decide ((0 : Int) < ((refL b a b a 31).length : Int)) := by
  rw [decide_eq_decide]
  constructor
  · intro h
    have hd1 := Nat.gcd_dvd_left b a
    have hd2 := Nat.gcd_dvd_right b a
    have hle := Nat.le_of_dvd (by omega) hd1
    have hm : ((Nat.gcd b a : Nat) : Int) ∈ refL b a b a 31 := by
      rw [refL_mem, divAll_iff]
      exact ⟨by omega, tmod_dvd.2 hd1, tmod_dvd.2 hd2, tmod_dvd.2 hd1, tmod_dvd.2 hd2⟩
    have := List.length_pos_of_mem hm
    omega
  · intro h
    have hl : 0 < (refL b a b a 31).length := by omega
    obtain ⟨x, hx⟩ := List.exists_mem_of_length_pos hl
    rw [refL_mem, divAll_iff] at hx
    obtain ⟨hr, h1, h2, _, _⟩ := hx
    obtain ⟨n, rfl⟩ := Int.eq_ofNat_of_zero_le (show 0 ≤ x by omega)
    have hg := Nat.le_of_dvd (Nat.gcd_pos_of_pos_left a (by omega)) (Nat.dvd_gcd (tmod_dvd.1 h1) (tmod_dvd.1 h2))
    omega
theorem filter_take_succ {l : List Int} {k : Nat} (p : Int → Bool) (h : k < l.length) : (l.take (k + 1)).filter p = (l.take k).filter p ++ (if p (l.getD k 0) then [l.getD k 0] else []) := by
  rw [take_snoc l 0 k h, List.filter_append, List.filter_cons, List.filter_nil]

/-- Versines of levels without holes. -/
def versU (b a : Int) (l : List Int) (i : Nat) : Int := (b + a) * l.getD (i + b.toNat) 0 - a * l.getD i 0 - b * l.getD (i + (b + a).toNat) 0
theorem bndU {u v : Int} (h5 : u.natAbs ≤ 64) (h6 : v.natAbs ≤ 4000) : -256000 ≤ u * v ∧ u * v ≤ 256000 := by
  have := Int.natAbs_mul u v
  have h7 := Nat.mul_le_mul h5 h6
  generalize u * v = c at *
  generalize u.natAbs * v.natAbs = d at *
  omega
theorem versU_small {b a : Int} {l : List Int} (hb : 1 ≤ b) (hb2 : b ≤ 32) (ha : 1 ≤ a) (ha2 : a ≤ 32) (hs : ∀ i : Nat, -4000 ≤ l.getD i 0 ∧ l.getD i 0 ≤ 4000) (i : Nat) : -800000 ≤ versU b a l i ∧ versU b a l i ≤ 800000 := by
  have h1 := hs (i + b.toNat)
  have h2 := hs i
  have h3 := hs (i + (b + a).toNat)
  have k1 := bndU (u := b + a) (v := l.getD (i + b.toNat) 0) (by omega) (by omega)
  have k2 := bndU (u := a) (v := l.getD i 0) (by omega) (by omega)
  have k3 := bndU (u := b) (v := l.getD (i + (b + a).toNat) 0) (by omega) (by omega)
  unfold versU
  omega
theorem addAll_all (l : List Int) : addAll (l.map fun x => (x, true)) = (l, []) := by
  suffices h : ∀ m : List Int, addAll (m.reverse.map fun x => (x, true)) = (m.reverse, []) by
    have := h l.reverse
    rwa [List.reverse_reverse] at this
  intro m
  induction m with
  | nil => rfl
  | cons q m ih => rw [List.reverse_cons, List.map_append, List.map_cons, List.map_nil, addAll_snoc, ih]; rfl
theorem vers_flat {b a f : Int} {l : List Int} (hb : 1 ≤ b) (hb2 : b ≤ 32) (ha : 1 ≤ a) (ha2 : a ≤ 32) (hs : ∀ i : Nat, -4000 ≤ l.getD i 0 ∧ l.getD i 0 ≤ 4000) (hn : b + a < l.length) :
    RVersinesS b a ⟨f, l, []⟩ = (⟨f + b, (List.range (l.length - (b + a).toNat)).map (versU b a l), []⟩, 0) := by
  have hVg : ∀ i : Nat, i < l.length → (valuesS l []).getD i (0, false) = (l.getD i 0, true) := fun i hi => by rw [valuesS_get _ _ _ hi]; rfl
  have hU : summedL (valuesS l []) (versW b a) b a 1 = ((List.range (l.length - (b + a).toNat)).map (versU b a l)).map fun x => (x, true) := by
    unfold summedL
    rw [valuesS_len, List.map_map]
    have e : ((l.length : Int) - b - a).toNat = l.length - (b + a).toNat := by omega
    rw [e]
    refine List.map_congr_left fun i hi => ?_
    have hi := List.mem_range.1 hi
    rw [wsum_vers _ _ _ _ hb ha, hVg _ (by omega), hVg _ (by omega), hVg _ (by omega)]
    simp only [Function.comp, versU, Bool.and_self]
    rw [Int.neg_mul, Int.neg_mul]
    refine Prod.ext ?_ rfl
    dsimp only; omega
  show summedS f (valuesS l []) (versW b a) b a 1 = _
  unfold summedS
  rw [hU, if_neg (by simp only [List.length_map, List.length_range]; omega)]
  unfold madeS
  rw [addAll_all, if_neg]
  rw [Bool.not_eq_true, List.any_eq_false]
  intro x hx
  obtain ⟨y, hy, rfl⟩ := List.mem_map.1 hx
  obtain ⟨i, _, rfl⟩ := List.mem_map.1 hy
  have h1 := versU_small hb hb2 ha ha2 hs i
  have e : readingS (versU b a l i) = 0 := by unfold readingS; rw [withinS_eq]; omega
  unfold badS; rw [e]; simp
theorem traceS_flat {f : Int} {l : List Int} (f0 : 0 ≤ f) (f1 : f + l.length ≤ 100000000) (hl : l.length ≤ 4096) (hv : ∀ x ∈ l, -1073741824 ≤ x ∧ x ≤ 1073741824) : traceS ⟨f, l, []⟩ = 0 := by
  have e1 : headS f l = 0 := by
    unfold headS
    rw [firstS_two, if_pos ((withinS_eq _ _ _).2 (by omega)), whenS_eq _ _ (by decide), decide_eq_false_iff_not]; omega
  have e2 : bodyS f l = 0 := by
    unfold bodyS
    rw [firstS_two, if_pos]
    · rw [firstS_eq]
      intro x hx
      obtain ⟨y, hy, rfl⟩ := List.mem_map.1 hx
      unfold readingS; rw [withinS_eq]; exact hv y hy
    · rw [whenS_eq _ _ (by decide), decide_eq_false_iff_not]; omega
  unfold traceS
  dsimp only
  rw [e1, e2]
  rfl

/-- A panel of a trace without holes. -/
theorem panE_flat {f p : Int} {l : List Int} (ht : traceS ⟨f, l, []⟩ = 0) (h0 : f ≤ p) (h1 : p + 4 ≤ f + l.length) : panE ⟨f, l, []⟩ p = 0 := by
  have hok := traceS_ok ht
  have f0 : 0 ≤ f := hok.f0
  have f1 : f ≤ 100000000 := hok.f1
  have t2 : l.length ≤ 4096 := hok.len
  have hB : pnB ⟨f, l, []⟩ p = false := by
    unfold pnB wEnd
    rw [wrap64_id (by dsimp only; omega) (by dsimp only; omega), wrap_id (by dsimp only; omega) (by dsimp only; omega), Bool.or_eq_false_iff, decide_eq_false_iff_not, decide_eq_false_iff_not]
    dsimp only; omega
  have hk : ∀ q : Int, f ≤ q → q < f + l.length → kP ⟨f, l, []⟩ q = true := by
    intro q q0 q1
    unfold kP
    rw [knS_in _ (by dsimp only; omega)]
    rfl
  have hK : pnK ⟨f, l, []⟩ p = true := by
    unfold pnK
    rw [hk p (by omega) (by omega), hk (p + 1) (by omega) (by omega), hk (p + 2) (by omega) (by omega), hk (p + 3) (by omega) (by omega)]; rfl
  unfold panE pnH
  rw [hB, ht, hK]; rfl
theorem repsL_get (l : List Int) (n i : Nat) (h : i < n) : (repsL l n).getD i 0 = l.getD (i % l.length) 0 := by
  simp [repsL, List.getD_eq_getElem?_getD, h]
/-- The four levels. -/
def lev (l : List Int) (i : Nat) : Int := (l.getD (i % l.length) 0).tmod 4000
def levL (l : List Int) : List Int := [lev l 0, lev l 1, lev l 2, lev l 3]
theorem lev_bound (l : List Int) (i : Nat) : -4000 ≤ lev l i ∧ lev l i ≤ 4000 := by
  unfold lev
  generalize l.getD (i % l.length) 0 = x
  have h1 := Int.tmod_lt_of_pos x (show (0 : Int) < 4000 by decide)
  have h2 := Int.tmod_lt_of_pos (-x) (show (0 : Int) < 4000 by decide)
  rw [Int.neg_tmod] at h2
  omega
theorem levL_get (l : List Int) (i : Nat) : -4000 ≤ (repsL (levL l) 80).getD i 0 ∧ (repsL (levL l) 80).getD i 0 ≤ 4000 := by
  by_cases h : i < 80
  · rw [repsL_get _ _ _ h]
    exact getD4 (lev_bound l 0) (lev_bound l 1) (lev_bound l 2) (lev_bound l 3) _
  · rw [List.getD_eq_getElem?_getD, List.getElem?_eq_none (by rw [repsL_len]; omega)]; exact ⟨by decide, by decide⟩
theorem lev_quad (l : List Int) (i : Nat) (h : i < 80) : (repsL (levL l) 80).getD i 0 = quad (lev l 0) (lev l 1) (lev l 2) (lev l 3) i := by
  rw [repsL_get _ _ _ h]
  have e : (levL l).length = 4 := rfl
  rw [e]
  obtain hr | hr | hr | hr : i % 4 = 0 ∨ i % 4 = 1 ∨ i % 4 = 2 ∨ i % 4 = 3 := by omega
  · rw [hr, quad_0 (by omega)]; rfl
  · rw [hr, quad_1 (by omega)]; rfl
  · rw [hr, quad_2 (by omega)]; rfl
  · rw [hr, quad_3 (by omega)]; rfl
theorem quad_mod {x0 x1 x2 x3 i j : Int} (h : i % 4 = j % 4) : quad x0 x1 x2 x3 i = quad x0 x1 x2 x3 j := by unfold quad; rw [h]
def trT (l : List Int) : Tr := ⟨100, repsL (levL l) 80, []⟩
def trV (b a : Int) (l : List Int) : Tr := ⟨100 + b, (List.range (80 - (b + a).toNat)).map (versU b a (repsL (levL l) 80)), []⟩
theorem trT_ok (l : List Int) : traceS (trT l) = 0 :=
  traceS_flat (by decide) (by rw [repsL_len]; decide) (by rw [repsL_len]; decide) (fun x hx => by
    obtain ⟨i, hi, rfl⟩ := List.mem_iff_getElem.1 hx
    have := levL_get l i
    rw [List.getD_eq_getElem?_getD, List.getElem?_eq_getElem hi] at this
    simp only [Option.getD_some] at this
    omega)
theorem trV_vers {b a : Int} (l : List Int) (hb : 1 ≤ b) (hb2 : b ≤ 32) (ha : 1 ≤ a) (ha2 : a ≤ 32) : RVersinesS b a (trT l) = (trV b a l, 0) := by
  have h := vers_flat (f := 100) (l := repsL (levL l) 80) hb hb2 ha ha2 (levL_get l) (by rw [repsL_len]; omega)
  rw [repsL_len] at h
  exact h
theorem trV_ok {b a : Int} (l : List Int) (hb : 1 ≤ b) (hb2 : b ≤ 32) (ha : 1 ≤ a) (ha2 : a ≤ 32) : traceS (trV b a l) = 0 :=
  traceS_flat (by omega) (by simp only [List.length_map, List.length_range]; omega) (by simp only [List.length_map, List.length_range]; omega) (fun x hx => by
    obtain ⟨i, _, rfl⟩ := List.mem_map.1 hx
    have := versU_small hb hb2 ha ha2 (levL_get l) i
    omega)
theorem panT (l : List Int) : panE (trT l) 100 = 0 ∧ panL (trT l) 100 = levL l := by
  refine ⟨panE_flat (trT_ok l) (by decide) (by rw [repsL_len]; decide), ?_⟩
  have g : ∀ i : Nat, i < 4 → vP (trT l) (100 + (i : Int)) = (levL l).getD i 0 := by
    intro i hi
    show (repsL (levL l) 80).getD (100 + (i : Int) - 100).toNat 0 = _
    have e : (100 + (i : Int) - 100).toNat = i := by omega
    have e2 : (levL l).length = 4 := rfl
    rw [e, repsL_get _ _ _ (by omega), e2, Nat.mod_eq_of_lt hi]
  have g0 := g 0 (by omega)
  have g1 := g 1 (by omega)
  have g2 := g 2 (by omega)
  have g3 := g 3 (by omega)
  show [vP (trT l) (100 + ((0 : Nat) : Int)), vP (trT l) (100 + ((1 : Nat) : Int)), vP (trT l) (100 + ((2 : Nat) : Int)), vP (trT l) (100 + ((3 : Nat) : Int))] = _
  rw [g0, g1, g2, g3]; rfl
theorem panV {b a : Int} (l : List Int) (hb : 1 ≤ b) (hb2 : b ≤ 32) (ha : 1 ≤ a) (ha2 : a ≤ 32) : panE (trV b a l) 132 = 0 ∧
    panL (trV b a l) 132 = [verQ b a (lev l 0) (lev l 1) (lev l 2) (lev l 3) 0, verQ b a (lev l 0) (lev l 1) (lev l 2) (lev l 3) 1, verQ b a (lev l 0) (lev l 1) (lev l 2) (lev l 3) 2, verQ b a (lev l 0) (lev l 1) (lev l 2) (lev l 3) 3] := by
  have hlen : (trV b a l).vals.length = 80 - (b + a).toNat := by simp [trV]
  refine ⟨panE_flat (trV_ok l hb hb2 ha ha2) (by omega) (by simp only [List.length_map, List.length_range]; omega), ?_⟩
  have g : ∀ i : Nat, i < 4 → vP (trV b a l) (132 + (i : Int)) = verQ b a (lev l 0) (lev l 1) (lev l 2) (lev l 3) i := by
    intro i hi
    show ((List.range (80 - (b + a).toNat)).map (versU b a (repsL (levL l) 80))).getD (132 + (i : Int) - (100 + b)).toNat 0 = _
    have hj : (132 + (i : Int) - (100 + b)).toNat < 80 - (b + a).toNat := by omega
    rw [List.getD_eq_getElem?_getD, List.getElem?_map, List.getElem?_range hj]
    simp only [Option.map_some, Option.getD_some]
    unfold versU verQ
    rw [lev_quad _ _ (by omega), lev_quad _ _ (by omega), lev_quad _ _ (by omega)]
    rw [quad_mod (i := (((132 + (i : Int) - (100 + b)).toNat + b.toNat : Nat) : Int)) (j := (i : Int)) (by omega), quad_mod (i := (((132 + (i : Int) - (100 + b)).toNat : Nat) : Int)) (j := (i : Int) + -b) (by omega), quad_mod (i := (((132 + (i : Int) - (100 + b)).toNat + (b + a).toNat : Nat) : Int)) (j := (i : Int) + a) (by omega)]
  have g0 := g 0 (by omega)
  have g1 := g 1 (by omega)
  have g2 := g 2 (by omega)
  have g3 := g 3 (by omega)
  show [vP (trV b a l) (132 + ((0 : Nat) : Int)), vP (trV b a l) (132 + ((1 : Nat) : Int)), vP (trV b a l) (132 + ((2 : Nat) : Int)), vP (trV b a l) (132 + ((3 : Nat) : Int))] = _
  rw [g0, g1, g2, g3]; rfl
end

section
open Go.RowKit Go.Sym

theorem take_ext {α : Type} {a b : List α} (d : α) (k : Nat) (hk : k < a.length) (hk2 : k < b.length) (h : a.take k = b.take k) (e : a.getD k d = b.getD k d) : a.take (k + 1) = b.take (k + 1) := by
  rw [take_snoc a d k hk, take_snoc b d k hk2, h, e]
theorem take_ne {α : Type} {a b : List α} (d : α) (k : Nat) (e : a.getD k d ≠ b.getD k d) : a ≠ b := fun h => e (by rw [h])
def SameInts_i (a b : List Int) (σ : Ren) : Inst := { f := 50, hin := [(0, .ro a.length 1 (.ints .i64 a)), (1, .ro b.length 1 (.ints .i64 b))], args := [.sl 0 a.length, .sl 1 b.length], hout := [], ret := bl (decide (a = b)), σ := σ }
set_option maxHeartbeats 1000000 in
theorem SameInts_s (a b : List Int) (σ : Ren) (ha : a.length ≤ 1000000) : (SameInts_i a b σ).ok Tryd.prog := by
  unfold SameInts_i Inst.ok; dsimp only; refine spec_of_body (tys := tys) 2 Tryd.func50 (by kernel_rfl) rfl tys_ok rfl (Nat.le_of_ble_eq_true rfl) (fun _ _ h => (by cases h)) fun F hP hm hC => ?_; conv => whnf
  repeat first | refine lwp_seq fun K hK => ?_ | ((with_reducible refine thenS_normal ?_); apply_assumption -exfalso -symm) | refine thenS_exit ?_ | refine thenS_ret ?_ | refine inBlockS_normal ?_ | refine inBlockS_ret ?_ | refine inBlockS_hit rfl ?_ | refine inBlockS_miss rfl ?_ | refine lwp_block ?_ | refine lwp_skip ?_ | refine lwp_exit ?_ | refine lwp_ret ?_ | refine lwp_label ?_ | refine lwp_region hC ⟨[], [], []⟩ (told0 _ _) rfl True.intro ?_ | refine lwp_region hC ⟨[], [], []⟩ (told0 _ _) rfl (by ((try simp only [AllL, All, cd_p, cp_p, cv_p, InK, and_true, true_and]); all_goals ((repeat' (first | refine And.intro ?_ ?_ | intro _)) <;> first | omega | exact True.intro | assumption | (simp; done) | rfl | (simp_all; done) | (simp_all; omega)))) ?_
  (refine lwp_cond hC rfl (by first | exact True.intro | ((try simp only [AllL, All, cd_p, cp_p, cv_p, InK, and_true, true_and]); all_goals ((repeat' (first | refine And.intro ?_ ?_ | intro _)) <;> first | omega | exact True.intro | assumption | (simp; done) | rfl | (simp_all; done) | (simp_all; omega)))) (fun hb => ?_) (fun hb => ?_) <;> (try simp only [decide_eq_true_eq, decide_eq_false_iff_not, Bool.not_eq_true', Bool.not_eq_false', ne_eq, Decidable.not_not] at hb))
  · repeat first | refine lwp_seq fun K hK => ?_ | ((with_reducible refine thenS_normal ?_); apply_assumption -exfalso -symm) | refine thenS_exit ?_ | refine thenS_ret ?_ | refine inBlockS_normal ?_ | refine inBlockS_ret ?_ | refine inBlockS_hit rfl ?_ | refine inBlockS_miss rfl ?_ | refine lwp_block ?_ | refine lwp_skip ?_ | refine lwp_exit ?_ | refine lwp_ret ?_ | refine lwp_label ?_ | refine lwp_region hC ⟨[], [], []⟩ (told0 _ _) rfl True.intro ?_ | refine lwp_region hC ⟨[], [], []⟩ (told0 _ _) rfl (by ((try simp only [AllL, All, cd_p, cp_p, cv_p, InK, and_true, true_and]); all_goals ((repeat' (first | refine And.intro ?_ ?_ | intro _)) <;> first | omega | exact True.intro | assumption | (simp; done) | rfl | (simp_all; done) | (simp_all; omega)))) ?_
    (refine end_intro (by first | exact .inr rfl | exact .inl rfl) [] rfl ?_)
    refine ⟨decide_eq_false (?_ : ¬ a = b), trivial⟩
    rintro rfl
    exact hb rfl
  · have hl : a.length = b.length := by omega
    repeat first | refine lwp_seq fun K hK => ?_ | ((with_reducible refine thenS_normal ?_); apply_assumption -exfalso -symm) | refine thenS_exit ?_ | refine thenS_ret ?_ | refine inBlockS_normal ?_ | refine inBlockS_ret ?_ | refine inBlockS_hit rfl ?_ | refine inBlockS_miss rfl ?_ | refine lwp_block ?_ | refine lwp_skip ?_ | refine lwp_exit ?_ | refine lwp_ret ?_ | refine lwp_label ?_ | refine lwp_region hC ⟨[], [], []⟩ (told0 _ _) rfl True.intro ?_ | refine lwp_region hC ⟨[], [], []⟩ (told0 _ _) rfl (by ((try simp only [AllL, All, cd_p, cp_p, cv_p, InK, and_true, true_and]); all_goals ((repeat' (first | refine And.intro ?_ ?_ | intro _)) <;> first | omega | exact True.intro | assumption | (simp; done) | rfl | (simp_all; done) | (simp_all; omega)))) ?_
    refine lwp_loop (fun k : Nat => ⟨[(5, i64 k), (0, .sl 0 a.length), (1, .sl 1 b.length)], [(0, .ro a.length 1 (.ints .i64 a)), (1, .ro b.length 1 (.ints .i64 b))], 2⟩) (fun k => k ≤ a.length ∧ a.take k = b.take k) (fun k => a.length - k) 0 ⟨?_, sub_intro hm [(0, some 0), (1, some 1)] rfl ?_⟩ ?_
    · exact ⟨Nat.zero_le _, rfl⟩
    · ((try simp only [AllL, All, cd_p, cp_p, cv_p, InK, and_true, true_and]); all_goals ((repeat' (first | refine And.intro ?_ ?_ | intro _)) <;> first | omega | exact True.intro | assumption | (simp; done) | rfl | (simp_all; done) | (simp_all; omega)))
    · rintro k ⟨hk, hf⟩
      have hkk : ((k : Int)).toNat = k := Int.toNat_natCast k
      repeat first | refine lwp_seq fun K hK => ?_ | ((with_reducible refine thenS_normal ?_); apply_assumption -exfalso -symm) | refine thenS_exit ?_ | refine thenS_ret ?_ | refine inBlockS_normal ?_ | refine inBlockS_ret ?_ | refine inBlockS_hit rfl ?_ | refine inBlockS_miss rfl ?_ | refine lwp_block ?_ | refine lwp_skip ?_ | refine lwp_exit ?_ | refine lwp_ret ?_ | refine lwp_label ?_ | refine lwp_region hC ⟨[], [], []⟩ (told0 _ _) rfl True.intro ?_ | refine lwp_region hC ⟨[], [], []⟩ (told0 _ _) rfl (by ((try simp only [AllL, All, cd_p, cp_p, cv_p, InK, and_true, true_and]); all_goals ((repeat' (first | refine And.intro ?_ ?_ | intro _)) <;> first | omega | exact True.intro | assumption | (simp; done) | rfl | (simp_all; done) | (simp_all; omega)))) ?_
      (refine lwp_cond hC rfl (by first | exact True.intro | ((try simp only [AllL, All, cd_p, cp_p, cv_p, InK, and_true, true_and]); all_goals ((repeat' (first | refine And.intro ?_ ?_ | intro _)) <;> first | omega | exact True.intro | assumption | (simp; done) | rfl | (simp_all; done) | (simp_all; omega)))) (fun hb => ?_) (fun hb => ?_) <;> (try simp only [decide_eq_true_eq, decide_eq_false_iff_not, Bool.not_eq_true', Bool.not_eq_false', ne_eq, Decidable.not_not] at hb))
      · have hk2 : k < a.length := by omega
        have hk3 : k < b.length := by omega
        repeat first | refine lwp_seq fun K hK => ?_ | ((with_reducible refine thenS_normal ?_); apply_assumption -exfalso -symm) | refine thenS_exit ?_ | refine thenS_ret ?_ | refine inBlockS_normal ?_ | refine inBlockS_ret ?_ | refine inBlockS_hit rfl ?_ | refine inBlockS_miss rfl ?_ | refine lwp_block ?_ | refine lwp_skip ?_ | refine lwp_exit ?_ | refine lwp_ret ?_ | refine lwp_label ?_ | refine lwp_region hC ⟨[], [], []⟩ (told0 _ _) rfl True.intro ?_ | refine lwp_region hC ⟨[], [], []⟩ (told0 _ _) rfl (by ((try simp only [AllL, All, cd_p, cp_p, cv_p, InK, and_true, true_and]); all_goals ((repeat' (first | refine And.intro ?_ ?_ | intro _)) <;> first | omega | exact True.intro | assumption | (simp; done) | rfl | (simp_all; done) | (simp_all; omega)))) ?_
        (refine lwp_drawn hC (by rw [hP]; exact mixed) ⟨[], [], []⟩ (told0 _ _) [0, 0, 3, 7, 0, 0, 48, 112, 255] 8 rfl ?_ ?_; rotate_left 1)
        · repeat first | refine lwp_seq fun K hK => ?_ | ((with_reducible refine thenS_normal ?_); apply_assumption -exfalso -symm) | refine thenS_exit ?_ | refine thenS_ret ?_ | refine inBlockS_normal ?_ | refine inBlockS_ret ?_ | refine inBlockS_hit rfl ?_ | refine inBlockS_miss rfl ?_ | refine lwp_block ?_ | refine lwp_skip ?_ | refine lwp_exit ?_ | refine lwp_ret ?_ | refine lwp_label ?_ | refine lwp_region hC ⟨[], [], []⟩ (told0 _ _) rfl True.intro ?_ | refine lwp_region hC ⟨[], [], []⟩ (told0 _ _) rfl (by ((try simp only [AllL, All, cd_p, cp_p, cv_p, InK, and_true, true_and]); all_goals ((repeat' (first | refine And.intro ?_ ?_ | intro _)) <;> first | omega | exact True.intro | assumption | (simp; done) | rfl | (simp_all; done) | (simp_all; omega)))) ?_
          (refine lwp_cond hC rfl (by first | exact True.intro | ((try simp only [AllL, All, cd_p, cp_p, cv_p, InK, and_true, true_and]); all_goals ((repeat' (first | refine And.intro ?_ ?_ | intro _)) <;> first | omega | exact True.intro | assumption | (simp; done) | rfl | (simp_all; done) | (simp_all; omega)))) (fun hb => ?_) (fun hb => ?_) <;> (try simp only [decide_eq_true_eq, decide_eq_false_iff_not, Bool.not_eq_true', Bool.not_eq_false', ne_eq, Decidable.not_not] at hb))
          · rw [hkk] at hb
            repeat first | refine lwp_seq fun K hK => ?_ | ((with_reducible refine thenS_normal ?_); apply_assumption -exfalso -symm) | refine thenS_exit ?_ | refine thenS_ret ?_ | refine inBlockS_normal ?_ | refine inBlockS_ret ?_ | refine inBlockS_hit rfl ?_ | refine inBlockS_miss rfl ?_ | refine lwp_block ?_ | refine lwp_skip ?_ | refine lwp_exit ?_ | refine lwp_ret ?_ | refine lwp_label ?_ | refine lwp_region hC ⟨[], [], []⟩ (told0 _ _) rfl True.intro ?_ | refine lwp_region hC ⟨[], [], []⟩ (told0 _ _) rfl (by ((try simp only [AllL, All, cd_p, cp_p, cv_p, InK, and_true, true_and]); all_goals ((repeat' (first | refine And.intro ?_ ?_ | intro _)) <;> first | omega | exact True.intro | assumption | (simp; done) | rfl | (simp_all; done) | (simp_all; omega)))) ?_
            (refine end_intro (by first | exact .inr rfl | exact .inl rfl) [] rfl ?_)
            refine ⟨decide_eq_false (?_ : ¬ a = b), trivial⟩
            exact take_ne 0 k hb
          · rw [hkk] at hb
            repeat first | refine lwp_seq fun K hK => ?_ | ((with_reducible refine thenS_normal ?_); apply_assumption -exfalso -symm) | refine thenS_exit ?_ | refine thenS_ret ?_ | refine inBlockS_normal ?_ | refine inBlockS_ret ?_ | refine inBlockS_hit rfl ?_ | refine inBlockS_miss rfl ?_ | refine lwp_block ?_ | refine lwp_skip ?_ | refine lwp_exit ?_ | refine lwp_ret ?_ | refine lwp_label ?_ | refine lwp_region hC ⟨[], [], []⟩ (told0 _ _) rfl True.intro ?_ | refine lwp_region hC ⟨[], [], []⟩ (told0 _ _) rfl (by ((try simp only [AllL, All, cd_p, cp_p, cv_p, InK, and_true, true_and]); all_goals ((repeat' (first | refine And.intro ?_ ?_ | intro _)) <;> first | omega | exact True.intro | assumption | (simp; done) | rfl | (simp_all; done) | (simp_all; omega)))) ?_
            refine thenS_normal ⟨k + 1, ?_, ?_, sub_intro hm [(0, some 0), (1, some 1)] rfl ?_⟩
            · exact ⟨by omega, take_ext 0 k hk2 hk3 hf hb⟩
            · omega
            · ((try simp only [AllL, All, cd_p, cp_p, cv_p, InK, and_true, true_and]); all_goals ((repeat' (first | refine And.intro ?_ ?_ | intro _)) <;> first | omega | exact True.intro | assumption | (simp; done) | rfl | (simp_all; done) | (simp_all; omega)))
        · rw [hkk]; ((try simp only [AllL, All, cd_p, cp_p, cv_p, InK, and_true, true_and]); all_goals ((repeat' (first | refine And.intro ?_ ?_ | intro _)) <;> first | omega | exact True.intro | assumption | (simp; done) | rfl | (simp_all; done) | (simp_all; omega)))
      · repeat first | refine lwp_seq fun K hK => ?_ | ((with_reducible refine thenS_normal ?_); apply_assumption -exfalso -symm) | refine thenS_exit ?_ | refine thenS_ret ?_ | refine inBlockS_normal ?_ | refine inBlockS_ret ?_ | refine inBlockS_hit rfl ?_ | refine inBlockS_miss rfl ?_ | refine lwp_block ?_ | refine lwp_skip ?_ | refine lwp_exit ?_ | refine lwp_ret ?_ | refine lwp_label ?_ | refine lwp_region hC ⟨[], [], []⟩ (told0 _ _) rfl True.intro ?_ | refine lwp_region hC ⟨[], [], []⟩ (told0 _ _) rfl (by ((try simp only [AllL, All, cd_p, cp_p, cv_p, InK, and_true, true_and]); all_goals ((repeat' (first | refine And.intro ?_ ?_ | intro _)) <;> first | omega | exact True.intro | assumption | (simp; done) | rfl | (simp_all; done) | (simp_all; omega)))) ?_
        (refine end_intro (by first | exact .inr rfl | exact .inl rfl) [] rfl ?_)
        refine ⟨decide_eq_true (?_ : a = b), trivial⟩
        have e : k = a.length := by omega
        have e1 : a.take k = a := List.take_of_length_le (by omega)
        have e2 : b.take k = b := List.take_of_length_le (by omega)
        rw [e1, e2] at hf
        exact hf
def Ints_i (l : List Int) (σ : Ren) : Inst := { f := 34, hin := [(0, .ro l.length 1 (.ints .i64 l))], args := [.sl 0 l.length], hout := [(1, .row 3 l.length 1 (.ints .i64 l))], ret := .sl 1 l.length, σ := σ }
theorem Ints_s (l : List Int) (σ : Ren) (h1 : l.length ≤ 1000000) : (Ints_i l σ).ok Tryd.prog := by
  unfold Ints_i Inst.ok; dsimp only; refine spec_of_body (tys := tys) 1 Tryd.func34 (by kernel_rfl) rfl tys_ok rfl (Nat.le_of_ble_eq_true rfl) (fun _ _ h => (by cases h)) fun F hP hm hC => ?_; conv => whnf
  repeat first | refine lwp_seq fun K hK => ?_ | ((with_reducible refine thenS_normal ?_); apply_assumption -exfalso -symm) | refine thenS_exit ?_ | refine thenS_ret ?_ | refine inBlockS_normal ?_ | refine inBlockS_ret ?_ | refine inBlockS_hit rfl ?_ | refine inBlockS_miss rfl ?_ | refine lwp_block ?_ | refine lwp_skip ?_ | refine lwp_exit ?_ | refine lwp_ret ?_ | refine lwp_label ?_ | refine lwp_region hC ⟨[], [], []⟩ (told0 _ _) rfl True.intro ?_ | refine lwp_region hC ⟨[], [], []⟩ (told0 _ _) rfl (by ((try simp only [AllL, All, cd_p, cp_p, cv_p, InK, and_true, true_and]); all_goals ((repeat' (first | refine And.intro ?_ ?_ | intro _)) <;> first | omega | exact True.intro | assumption | (simp; done) | rfl | (simp_all; done) | (simp_all; omega)))) ?_
  (refine end_intro (by first | exact .inr rfl | exact .inl rfl) [(1, some 2)] rfl ?_)
  ((try simp only [AllL, All, cd_p, cp_p, cv_p, InK, and_true, true_and]); all_goals ((repeat' (first | refine And.intro ?_ ?_ | intro _)) <;> first | omega | exact True.intro | assumption | (simp; done) | rfl | (simp_all; done) | (simp_all; omega)))

def Divisor_i (b a : Nat) : Inst := { f := 48, hin := [], args := [i64 b, i64 a], hout := [], ret := i64 (Nat.gcd b a : Nat), σ := [] }
open Go.Shelf in
set_option maxHeartbeats 1000000 in
theorem Divisor_c (b a : Nat) (w : World) (hb2 : b ≤ 1000) (ha2 : a ≤ 1000) :
    Calls Tryd.prog 48 #[.int .i64 b, .int .i64 a] w fun r w' => r = .returned (.int .i64 (Nat.gcd b a : Nat)) ∧ Below w.heap.size w w' := by
  go_enter Tryd.func48, Tryd.ntmps48
  go_wp2
  go_loopw [0, 1] (fun x y wr => ∃ p q : Nat, x = .int .i64 p ∧ y = .int .i64 q ∧ p ≤ 1000 ∧ q ≤ 1000 ∧ Nat.gcd p q = Nat.gcd b a ∧ Below w.heap.size w wr) (fun _ y _ => (intOf y).toNat)
  case atStart => exact ⟨b, a, by rw [show max (b : Int) (-(b : Int)) = b by omega], by rw [show max (a : Int) (-(a : Int)) = a by omega], hb2, ha2, rfl, Below.refl _ _⟩
  case round =>
    obtain ⟨p, q, rfl, rfl, hp, hq, hg, hB⟩ := hrel
    by_cases hlt : 0 < q
    · have hq0 : ¬ q = 0 := by omega
      go_wp2
      refine wp_region_noPanic ?_
      refine wp_region_held_drew (S := fun w' => Below w.heap.size w w') (by kernel_rfl) ?_ (fun hHeld => ?_)
      · first | exact rfl | ((try dsimp only); ((repeat' apply And.intro) <;> first | go_keep  | (repeat (first | with_reducible exact Below.refl _ _ | with_reducible assumption | with_reducible exact And.left (by assumption) | with_reducible exact And.left (And.right (by assumption)) | with_reducible refine Below.setCell ?_ (by dsimp only; omega) _ | with_reducible refine Below.allocE ?_ _ | with_reducible refine Below.drew ?_ | exact Below.refl _ _ | assumption | exact And.left (by assumption) | exact And.left (And.right (by assumption)) | refine Below.drew ?_ | refine Below.allocE ?_ _ | refine Below.setCell ?_ (by dsimp only; omega) _))))
      refine wpAnyH_take (i := 0) (oi := { dst := some 15, op := Op.move (Operand.tmp 1), type := 3, pos := _, after := #[], guard := none }) (v := ?_) rfl (by kernel_rfl) (by kernel_rfl) (by kernel_rfl) (fun _ _ _ h => h) (Or.inl ⟨by rfl, ?_⟩) (by assumption) ?_
      rotate_left 1
      · (intro w hSw; (try dsimp only at hSw); go_simp; (try with_reducible rfl))
      (try simp only [Act.put, List.setIfInBounds_toArray, List.set_cons_zero, List.set_cons_succ])
      refine wpAnyH_take (i := 1) (oi := { dst := some 16, op := Op.move (Operand.tmp 0), type := 3, pos := _, after := #[], guard := none }) (v := ?_) rfl (by kernel_rfl) (by kernel_rfl) (by kernel_rfl) (fun _ _ _ h => h) (Or.inl ⟨by rfl, ?_⟩) (by assumption) ?_
      rotate_left 1
      · (intro w hSw; (try dsimp only at hSw); go_simp; (try with_reducible rfl))
      (try simp only [Act.put, List.setIfInBounds_toArray, List.set_cons_zero, List.set_cons_succ])
      refine wpAnyH_take (i := 2) (oi := { dst := some 17, op := Op.move (Operand.tmp 1), type := 3, pos := _, after := #[], guard := none }) (v := ?_) rfl (by kernel_rfl) (by kernel_rfl) (by kernel_rfl) (fun _ _ _ h => h) (Or.inl ⟨by rfl, ?_⟩) (by assumption) ?_
      rotate_left 1
      · (intro w hSw; (try dsimp only at hSw); go_simp; (try with_reducible rfl))
      (try simp only [Act.put, List.setIfInBounds_toArray, List.set_cons_zero, List.set_cons_succ])
      refine wpAnyH_take (i := 3) (oi := { dst := some 18, op := Op.binOp BinOp.rem 3 (Operand.tmp 16) (Operand.tmp 17) 3, type := 3, pos := _, after := #[{ on := 1, ground := Ground.data }, { on := 2, ground := Ground.data }], guard := none }) (v := ?_) rfl (by kernel_rfl) (by kernel_rfl) (by kernel_rfl) (fun _ _ _ h => h) (Or.inl ⟨by rfl, ?_⟩) (by assumption) ?_
      rotate_left 1
      · (intro w hSw; (try dsimp only at hSw); go_simp; (try with_reducible rfl))
      (try simp only [Act.put, List.setIfInBounds_toArray, List.set_cons_zero, List.set_cons_succ])
      refine wpAnyH_take (i := 4) (oi := { dst := some 0, op := Op.assign (Operand.tmp 15), type := 3, pos := _, after := #[{ on := 0, ground := Ground.data }, { on := 0, ground := Ground.phase }, { on := 1, ground := Ground.phase }, { on := 2, ground := Ground.textOnly Departure.lateStores }, { on := 3, ground := Ground.textOnly Departure.lateStoresUnsure }], guard := none }) (v := ?_) rfl (by kernel_rfl) (by kernel_rfl) (by kernel_rfl) (fun _ _ _ h => h) (Or.inl ⟨by rfl, ?_⟩) (by assumption) ?_
      rotate_left 1
      · (intro w hSw; (try dsimp only at hSw); go_simp; (try with_reducible rfl))
      (try simp only [Act.put, List.setIfInBounds_toArray, List.set_cons_zero, List.set_cons_succ])
      refine wpAnyH_take (i := 5) (oi := { dst := some 1, op := Op.assign (Operand.tmp 18), type := 3, pos := _, after := #[{ on := 3, ground := Ground.data }, { on := 4, ground := Ground.chain }, { on := 0, ground := Ground.phase }, { on := 1, ground := Ground.phase }, { on := 2, ground := Ground.phase }, { on := 3, ground := Ground.phase }, { on := 4, ground := Ground.phase }], guard := none }) (v := ?_) rfl (by kernel_rfl) (by kernel_rfl) (by kernel_rfl) (fun _ _ _ h => h) (Or.inl ⟨by rfl, ?_⟩) (by assumption) ?_
      rotate_left 1
      · (intro w hSw; (try dsimp only at hSw); go_simp; (try with_reducible rfl))
      (try simp only [Act.put, List.setIfInBounds_toArray, List.set_cons_zero, List.set_cons_succ])
      refine wpAnyH_done (by kernel_rfl) ?_ _
      refine NoPanic.normal ?_
      go_wp2
      go_roundw
      case rel =>
        have h1 := Nat.mod_lt p (show q > 0 by omega)
        exact ⟨q, p % q, rfl, by rw [Int.tmod_eq_emod_of_nonneg (by omega)]; simp, hq, by omega, by rw [← hg, Nat.gcd_comm q, ← Nat.gcd_rec, Nat.gcd_comm], by (repeat (first | with_reducible exact Below.refl _ _ | with_reducible assumption | with_reducible exact And.left (by assumption) | with_reducible exact And.left (And.right (by assumption)) | with_reducible refine Below.setCell ?_ (by dsimp only; omega) _ | with_reducible refine Below.allocE ?_ _ | with_reducible refine Below.drew ?_ | exact Below.refl _ _ | assumption | exact And.left (by assumption) | exact And.left (And.right (by assumption)) | refine Below.drew ?_ | refine Below.allocE ?_ _ | refine Below.setCell ?_ (by dsimp only; omega) _))⟩
      case measure =>
        have h1 := Nat.mod_lt p (show q > 0 by omega)
        simp [intOf, Int.tmod_eq_emod_of_nonneg (show (0 : Int) ≤ (p : Int) by omega)]
        omega
    · obtain rfl : q = 0 := by omega
      rw [Nat.gcd_zero_right] at hg
      go_wp2
      go_ret
      refine ⟨?_, ?_⟩
      · first | rfl | (rw [hg]; rfl) | (subst hg; rfl) | simp [hg]
      · first | exact hB | (repeat (first | with_reducible exact Below.refl _ _ | with_reducible assumption | with_reducible exact And.left (by assumption) | with_reducible exact And.left (And.right (by assumption)) | with_reducible refine Below.setCell ?_ (by dsimp only; omega) _ | with_reducible refine Below.allocE ?_ _ | with_reducible refine Below.drew ?_ | exact Below.refl _ _ | assumption | exact And.left (by assumption) | exact And.left (And.right (by assumption)) | refine Below.drew ?_ | refine Below.allocE ?_ _ | refine Below.setCell ?_ (by dsimp only; omega) _))
theorem Divisor_s (b a : Nat) (hb2 : b ≤ 1000) (ha2 : a ≤ 1000) : (Divisor_i b a).ok Tryd.prog := by
  refine ⟨⟨_, Tryd.func48, rfl⟩, fun ρ w vs hdom _ hh hd => ?_⟩
  simp only [Divisor_i, AV.denL, AV.den, Option.map_some, listO, Option.some.injEq] at hd
  subst hd
  refine (Divisor_c b a w hb2 ha2).mono ?_
  rintro e w' ⟨rfl, hb⟩
  exact post_of_lit hb
theorem VersinesS_ok {b a : Int} {t : Tr} (hc : chordS b a = 0) (ht : traceS t = 0) : VersinesS b a t = RVersinesS b a t := by
  have h1 := chordS_ok hc
  unfold VersinesS; rw [if_neg (by rw [hc, ht]; decide)]
  exact versines_same b a t h1.1.1 h1.2.1
end

end Go.Proofs.YtbpffadffbgloaaDoor
