/- Runs: numbers of 32 bits, what the checks say of runs, samples checked. -/
import Derived.Test.YtoopgdchiljmiaaGreatDoorSA
import Derived.Test.YtoopgdchiljmiaaGreatDoorDa
set_option linter.unusedVariables false
set_option linter.unusedSimpArgs false
namespace Go.Proofs.YtoopgdchiljmiaaGreatDoor
open Go.RowKit Go.Sym

/-- A word that is a number. -/
def fin (b : Nat) : Bool := match Ieee.Format.read FloatKind.f32.format b with | .number .. => true | _ => false
theorem fin_iff {b : Nat} : fin b = true ↔ ∃ s m p, Ieee.Format.read FloatKind.f32.format b = .number s m p := by
  unfold fin
  split
  · rename_i s m p e; exact ⟨fun _ => ⟨s, m, p, e⟩, fun _ => rfl⟩
  · rename_i h; exact ⟨fun e => by (cases e), fun ⟨s, m, p, e⟩ => absurd e (h s m p)⟩

theorem sgn_not (s : Bool) (m u : Nat) : Ieee.signed s m u + Ieee.signed (!s) m u = 0 := by
  cases s
  · simp only [Ieee.signed, Bool.not_false, Bool.false_eq_true, if_false, if_true]; omega
  · simp only [Ieee.signed, Bool.not_true, Bool.false_eq_true, if_false, if_true]; omega
theorem sub_self_fin {b : Nat} (h : fin b = true) : FloatKind.f32.format.sub b b = some 0 := by
  obtain ⟨s, m, p, e⟩ := fin_iff.1 h
  unfold Ieee.Format.sub
  rw [e]
  simp only [Ieee.Datum.opposite, Ieee.Datum.sum, sgn_not, if_true, Int.natAbs_zero, Option.map_some]
  have : (s && !s) = false := by cases s <;> rfl
  rw [this]
  rfl
theorem sub_self_inf {b : Nat} (h : fin b = false) : FloatKind.f32.format.sub b b = none := by
  unfold fin at h
  unfold Ieee.Format.sub
  cases e : Ieee.Format.read FloatKind.f32.format b with
  | number s m p => rw [e] at h; cases h
  | infinity s => cases s <;> rfl
  | nan s t => rfl

/-- What a word of a number looks like. -/
theorem read_shape {b : Nat} {s : Bool} {m : Nat} {p : Int} (h : Ieee.Format.read FloatKind.f32.format b = .number s m p) : m < 16777216 ∧ -149 ≤ p ∧ p ≤ 104 ∧ (-149 < p → 8388608 ≤ m) := by
  unfold Ieee.Format.read at h
  have k1 : FloatKind.f32.format.signWeight = 2147483648 := by decide +kernel
  have k2 : FloatKind.f32.format.binade = 8388608 := by decide +kernel
  have k3 : FloatKind.f32.format.infRung = 2139095040 := by decide +kernel
  have k4 : FloatKind.f32.format.leastPlace = -149 := by decide +kernel
  simp only [k1, k2, k3, k4] at h
  split at h
  · injection h with h1 h2 h3
    omega
  · split at h
    · injection h with h1 h2 h3
      omega
    · split at h <;> cases h

theorem sgn_le (s : Bool) (m u : Nat) : Ieee.signed s m u ≤ ((m <<< u : Nat) : Int) ∧ -((m <<< u : Nat) : Int) ≤ Ieee.signed s m u := by
  unfold Ieee.signed
  generalize m <<< u = q
  cases s <;> simp only [Bool.false_eq_true, if_false, if_true] <;> omega
theorem read_max : Ieee.Format.read FloatKind.f32.format 2139095039 = .number false 16777215 104 := by decide +kernel
theorem read_min : Ieee.Format.read FloatKind.f32.format 4286578687 = .number true 16777215 104 := by decide +kernel

/-- A word that does not equal itself, or is beyond the greatest number, is none. -/
theorem known_iff (b : Nat) : (!Op.floatEq .f32 b b || (FloatKind.f32.format.order b 2139095039 == some .gt) || (FloatKind.f32.format.order b 4286578687 == some .lt)) = !fin b := by
  unfold fin Op.floatEq Ieee.Format.order
  rw [read_max, read_min]
  cases e : Ieee.Format.read FloatKind.f32.format b with
  | number s m p =>
    obtain ⟨h1, h2, h3, h4⟩ := read_shape e
    have hb : min p 104 = p := by omega
    simp only [Ieee.Datum.order, hb, Int.sub_self, Int.toNat_zero, Int.min_self]
    have hm : m <<< 0 = m := Nat.shiftLeft_zero
    have hp : 16777215 ≤ 16777215 <<< (104 - p).toNat := by
      rw [Nat.shiftLeft_eq]
      exact Nat.le_mul_of_pos_right _ (Nat.two_pow_pos _)
    have k := sgn_le s m 0
    rw [hm] at k
    have g1 : ¬ (Ieee.signed false 16777215 (104 - p).toNat < Ieee.signed s m 0) := by
      simp only [Ieee.signed, Bool.false_eq_true, if_false]
      have := k.1
      simp only [Ieee.signed] at this
      omega
    have g2 : ¬ (Ieee.signed s m 0 < Ieee.signed true 16777215 (104 - p).toNat) := by
      have := k.2
      simp only [Ieee.signed, if_true] at this ⊢
      omega
    have e1 : (some (compare (Ieee.signed s m 0) (Ieee.signed false 16777215 (104 - p).toNat)) == some Ordering.gt) = false := by
      rw [beq_eq_false_iff_ne]
      intro h
      injection h with h
      exact g1 (Int.compare_eq_gt.1 h)
    have e2 : (some (compare (Ieee.signed s m 0) (Ieee.signed true 16777215 (104 - p).toNat)) == some Ordering.lt) = false := by
      rw [beq_eq_false_iff_ne]
      intro h
      injection h with h
      exact g2 (Int.compare_eq_lt.1 h)
    have e3 : (some (compare (Ieee.signed s m 0) (Ieee.signed s m 0)) == some Ordering.eq) = true := by
      rw [beq_iff_eq, Int.compare_eq_eq.2 rfl]
    rw [e1, e2, e3]
    rfl
  | infinity s => cases s <;> rfl
  | nan s t => rfl

theorem cut_le (neg : Bool) (n d : Nat) : Ieee.Toward.cut .even neg n d ≤ n / 2 ^ min d (n.log2 + 2) + 1 := by
  unfold Ieee.Toward.cut
  simp only [Nat.one_shiftLeft]
  exact Nat.add_le_add_left (Bool.toNat_le _) _

/-- What is kept of a number fits. -/
theorem kept_le (neg : Bool) (mag : Nat) (place last : Int) (h0 : mag ≠ 0) (h1 : place + mag.log2 - 23 ≤ last) :
    Ieee.Toward.cut .even neg (mag <<< (place - last).toNat) (last - place).toNat ≤ 16777217 := by
  have hlt : mag < 2 ^ (mag.log2 + 1) := Nat.lt_log2_self
  refine Nat.le_trans (cut_le _ _ _) (Nat.add_le_add_right ?_ 1)
  have e24 : (16777216 : Nat) = 2 ^ 24 := by decide
  rw [Nat.shiftLeft_eq]
  by_cases h : last ≤ place
  · have e1 : (last - place).toNat = 0 := by omega
    rw [e1, Nat.zero_min, Nat.pow_zero, Nat.div_one, e24]
    obtain ⟨u, hu⟩ : ∃ u : Nat, (place - last).toNat = u := ⟨_, rfl⟩
    rw [hu]
    have h2 : mag.log2 + 1 + u ≤ 24 := by omega
    refine Nat.le_trans (Nat.mul_le_mul_right _ (Nat.le_of_lt hlt)) ?_
    rw [← Nat.pow_add]
    exact Nat.pow_le_pow_right (by decide) h2
  · have e1 : (place - last).toNat = 0 := by omega
    rw [e1, Nat.pow_zero, Nat.mul_one]
    obtain ⟨d, hd⟩ : ∃ d : Nat, (last - place).toNat = d := ⟨_, rfl⟩
    rw [hd]
    have h2 : mag.log2 ≤ d + 23 := by omega
    refine Nat.le_of_lt (Nat.div_lt_of_lt_mul ?_)
    rw [e24, ← Nat.pow_add]
    refine Nat.lt_of_lt_of_le hlt (Nat.pow_le_pow_right (by decide) ?_)
    have := Nat.min_def (n := d) (m := mag.log2 + 2)
    split at this <;> omega

/-- The nearest word to a number that is not great, as a rung. -/
theorem nearest_rung (neg : Bool) (mag : Nat) (place : Int) (h0 : mag ≠ 0) (h1 : place + mag.log2 - 23 ≤ -9) :
    ∃ r, r ≤ 1191182337 ∧ Ieee.Format.nearest FloatKind.f32.format neg mag place = Ieee.Format.word FloatKind.f32.format neg r := by
  unfold Ieee.Format.nearest
  have k2 : FloatKind.f32.format.binade = 8388608 := by decide +kernel
  have k4 : FloatKind.f32.format.leastPlace = -149 := by decide +kernel
  have k5 : (FloatKind.f32.format.fractionBits : Int) = 23 := by decide +kernel
  simp only [if_neg h0, k2, k4, k5]
  refine ⟨_, ?_, rfl⟩
  refine Nat.le_trans (Nat.min_le_left _ _) ?_
  have h2 := kept_le neg mag place (max (place + mag.log2 - 23) (-149)) h0 (by omega)
  have h3 : (max (place + (mag.log2 : Int) - 23) (-149) - -149).toNat ≤ 140 := by omega
  refine Nat.le_trans (Nat.add_le_add (Nat.mul_le_mul_right 8388608 h3) h2) (by decide)

/-- A word of a rung that is not great stands for a number that is not great. -/
theorem read_rung (neg : Bool) {r : Nat} (h : r ≤ 1191182337) : ∃ m p, Ieee.Format.read FloatKind.f32.format (Ieee.Format.word FloatKind.f32.format neg r) = .number neg m p ∧ m < 16777216 ∧ p ≤ -1 := by
  unfold Ieee.Format.read Ieee.Format.word
  have k1 : FloatKind.f32.format.signWeight = 2147483648 := by decide +kernel
  have k2 : FloatKind.f32.format.binade = 8388608 := by decide +kernel
  have k3 : FloatKind.f32.format.infRung = 2139095040 := by decide +kernel
  have k4 : FloatKind.f32.format.leastPlace = -149 := by decide +kernel
  simp only [k1, k2, k3, k4]
  have e1 : (if neg = true then 2147483648 + r else r) % 2147483648 = r := by split <;> omega
  have e2 : ((if neg = true then 2147483648 + r else r) / 2147483648 % 2 == 1) = neg := by
    cases neg
    · have : r / 2147483648 % 2 = 0 := by omega
      rw [if_neg (by decide), this]; rfl
    · have : (2147483648 + r) / 2147483648 % 2 = 1 := by omega
      rw [if_pos rfl, this]; rfl
  rw [e1, e2]
  by_cases h1 : r < 8388608
  · rw [if_pos h1]
    exact ⟨_, _, rfl, by omega, by omega⟩
  · rw [if_neg h1, if_pos (by omega)]
    exact ⟨_, _, rfl, by omega, by omega⟩

theorem zcut_le (neg : Bool) (n d : Nat) : Ieee.Toward.cut .zero neg n d ≤ n := by
  unfold Ieee.Toward.cut
  simp only [Bool.toNat_false, Nat.add_zero]
  exact Nat.div_le_self _ _
/-- Such a number can be cut to an integer. -/
theorem cut_some {b : Nat} {s : Bool} {m : Nat} {p : Int} (h : Ieee.Format.read FloatKind.f32.format b = .number s m p) (h1 : m < 16777216) (h2 : p ≤ 0) : (fltToInt .f32 b .i64).isSome = true := by
  unfold fltToInt FloatKind.decode
  rw [h]
  have e : p.toNat = 0 := by omega
  simp only [Ieee.Datum.toInt, Ieee.Datum.integral, e, Nat.shiftLeft_zero]
  have k := zcut_le s m (-p).toNat
  have k2 := sgn_le s (Ieee.Toward.cut .zero s m (-p).toNat) 0
  rw [Nat.shiftLeft_zero] at k2
  have a1 : IntKind.i64.min = -9223372036854775808 := by decide
  have a2 : IntKind.i64.max = 9223372036854775807 := by decide
  rw [if_pos (by rw [a1, a2]; omega)]
  rfl

theorem read_16 : Ieee.Format.read FloatKind.f32.format 1098907648 = .number false 8388608 (-19) := by decide +kernel
theorem read_1024 : Ieee.Format.read FloatKind.f32.format (FloatKind.f32.nearest 1024) = .number false 8388608 (-13) := by decide +kernel
theorem read_m1024 : Ieee.Format.read FloatKind.f32.format (FloatKind.f32.nearest (-1024)) = .number true 8388608 (-13) := by decide +kernel

theorem mul_comm16 (b : Nat) : FloatKind.f32.format.mul 1098907648 b = FloatKind.f32.format.mul b 1098907648 := by
  unfold Ieee.Format.mul
  rw [read_16]
  cases e : Ieee.Format.read FloatKind.f32.format b with
  | number s m p =>
    simp only [Ieee.Datum.product]
    rw [Bool.xor_comm, Nat.mul_comm, Int.add_comm]
  | infinity s => simp only [Ieee.Datum.product, Bool.xor_comm]
  | nan s t => rfl

/-- Sixteen times a number from -1024 to 1024 is one that can be cut. -/
theorem times16 {b : Nat} (h : fin b = true) (h1 : (FloatKind.f32.format.order b (FloatKind.f32.nearest (-1024)) == some .lt) = false) (h2 : (FloatKind.f32.format.order b (FloatKind.f32.nearest 1024) == some .gt) = false) :
    ∃ r, FloatKind.f32.format.mul b 1098907648 = some r ∧ (fltToInt .f32 r .i64).isSome = true := by
  obtain ⟨s, m, p, e⟩ := fin_iff.1 h
  obtain ⟨a1, a2, a3, a4⟩ := read_shape e
  unfold Ieee.Format.order at h1 h2
  rw [e, read_m1024] at h1
  rw [e, read_1024] at h2
  simp only [Ieee.Datum.order] at h1 h2
  have hp : p ≤ -13 := by
    refine Int.not_lt.1 fun hlt => ?_
    have hm := a4 (by omega)
    have hb : min p (-13) = -13 := by omega
    rw [hb] at h1 h2
    have hu : ((-13 : Int) - -13).toNat = 0 := by decide
    rw [hu] at h1 h2
    obtain ⟨u, hu2⟩ : ∃ u : Nat, (p - -13).toNat = u + 1 := ⟨(p - -13).toNat - 1, by omega⟩
    rw [hu2] at h1 h2
    have hg : 8388608 < m <<< (u + 1) := by
      rw [Nat.shiftLeft_eq]
      have : 2 ≤ 2 ^ (u + 1) := by
        have := Nat.two_pow_pos u
        rw [Nat.pow_succ]; omega
      have := Nat.mul_le_mul hm this
      omega
    have hz : 8388608 <<< 0 = 8388608 := by decide
    cases s with
    | false =>
      rw [beq_eq_false_iff_ne] at h2
      refine h2 ?_
      rw [Int.compare_eq_gt.2]
      simp only [Ieee.signed, Bool.false_eq_true, if_false, hz]
      omega
    | true =>
      rw [beq_eq_false_iff_ne] at h1
      refine h1 ?_
      rw [Int.compare_eq_lt.2]
      simp only [Ieee.signed, if_true, hz]
      omega
  unfold Ieee.Format.mul
  rw [e, read_16]
  simp only [Ieee.Datum.product, Option.map_some, Ieee.Format.write]
  refine ⟨_, rfl, ?_⟩
  by_cases h0 : m * 8388608 = 0
  · rw [h0]
    have : Ieee.Format.nearest FloatKind.f32.format (s ^^ false) 0 (p + -19) = Ieee.Format.word FloatKind.f32.format (s ^^ false) 0 := rfl
    rw [this]
    obtain ⟨m', p', e', b1, b2⟩ := read_rung (s ^^ false) (r := 0) (by omega)
    exact cut_some e' b1 (by omega)
  · have hl : (m * 8388608).log2 ≤ 46 := by
      have := (Nat.log2_lt (n := m * 8388608) (k := 47) h0).2 (by omega)
      omega
    obtain ⟨r, hr, er⟩ := nearest_rung (s ^^ false) (m * 8388608) (p + -19) h0 (by omega)
    rw [er]
    obtain ⟨m', p', e', b1, b2⟩ := read_rung (s ^^ false) hr
    exact cut_some e' b1 (by omega)

theorem order_eq_comm (a b : Ieee.Datum) : (a.order b == some .eq) = (b.order a == some .eq) := by
  have key : ∀ x y : Int, (some (compare x y) == some Ordering.eq) = (some (compare y x) == some Ordering.eq) := by
    intro x y
    rw [Bool.eq_iff_iff]
    simp only [beq_iff_eq, Option.some.injEq]
    rw [Int.compare_eq_eq, Int.compare_eq_eq]
    exact eq_comm
  cases a <;> cases b <;> simp only [Ieee.Datum.order]
  · rename_i s m i t n j
    rw [key, Int.min_comm]
  · rename_i s m i t; cases t <;> rfl
  · rename_i s t n j; cases s <;> rfl
  · rename_i s t; cases s <;> cases t <;> rfl
theorem floatEq_comm (x y : Nat) : Op.floatEq .f32 x y = Op.floatEq .f32 y x := order_eq_comm _ _

end Go.Proofs.YtoopgdchiljmiaaGreatDoor

namespace Go.Proofs.YtoopgdchiljmiaaGreatDoor
open Go.RowKit Go.Sym

def spans (l : List (Int × Int)) : List Value := l.flatMap fun p => [.int .i64 p.1, .int .i64 p.2]
theorem spans_len (l : List (Int × Int)) : (spans l).length = l.length * 2 := by
  induction l with
  | nil => rfl
  | cons a l ih => simp only [spans, List.flatMap_cons, List.length_append, List.length_cons, List.length_nil] at ih ⊢; omega
theorem spans_append (a b : List (Int × Int)) : spans (a ++ b) = spans a ++ spans b := by simp [spans]
def spanS (n : Int) (h : Int × Int) : Int := whenS (decide (h.1 < 0) || decide (h.2 ≤ h.1) || decide (n < h.2)) 14
def holeS (n last : Int) (h : Int × Int) : Int := firstS [spanS n h, whenS (decide (h.1 ≤ last)) 11]
def holesS (n : Int) : Int → List (Int × Int) → Int
  | _, [] => 0
  | last, h :: l => if holeS n last h ≠ 0 then holeS n last h else holesS n h.2 l
def formS (l : List Int) : List (Int × Int) → Int
  | [] => 0
  | h :: r => if ((l.drop h.1.toNat).take (h.2 - h.1).toNat).any (· != 0) then 1 else formS l r
theorem withinS_eq (n lo hi : Int) : withinS n lo hi = 0 ↔ lo ≤ n ∧ n ≤ hi := by unfold withinS; split <;> omega
theorem whenS_eq (b : Bool) (e : Int) (he : e ≠ 0) : whenS b e = 0 ↔ b = false := by cases b <;> simp [whenS, he]
theorem firstS_eq (l : List Int) : firstS l = 0 ↔ ∀ x ∈ l, x = 0 := by
  induction l with
  | nil => simp [firstS]
  | cons a l ih => unfold firstS; by_cases h : a = 0 <;> simp [h, ih]
def spC (l : List (Int × Int)) : Cont := genL (fun p : Int × Int => [.int .i64 p.1, .int .i64 p.2]) (0, 0) 2 l
theorem spC_cells (l : List (Int × Int)) : (spC l).cells = (spans l).map AV.lit := genL_cells (f := fun p : Int × Int => [Value.int .i64 p.1, Value.int .i64 p.2]) (fun _ => rfl) l
/-- The holes of a valid trace. -/
def HolesOk (n : Nat) (hs : List (Int × Int)) : Prop := ∀ p ∈ hs, 0 ≤ p.1 ∧ p.1 < p.2 ∧ p.2 ≤ n
theorem holesS_ok (n : Nat) : ∀ (hs : List (Int × Int)) (last : Int), holesS n last hs = 0 → HolesOk n hs
  | [], _, _ => fun p hp => by cases hp
  | h :: l, last, hz => by
    unfold holesS at hz
    have h1 : holeS n last h = 0 := by
      by_cases e : holeS n last h = 0
      · exact e
      · rw [if_pos e] at hz; exact absurd hz e
    rw [if_neg (by simpa using h1)] at hz
    have ih := holesS_ok n l h.2 hz
    unfold holeS at h1
    rw [firstS_eq] at h1
    have h2 := h1 _ List.mem_cons_self
    unfold spanS at h2
    rw [whenS_eq _ 14 (by decide)] at h2
    simp only [Bool.or_eq_false_iff, decide_eq_false_iff_not] at h2
    intro p hp
    rcases List.mem_cons.1 hp with rfl | hp
    · omega
    · exact ih p hp
def knownB (hs : List (Int × Int)) (i : Int) : Bool := !hs.any fun h => decide (h.1 ≤ i) && decide (i < h.2)
theorem formS_eq (l : List Int) : ∀ hs : List (Int × Int), HolesOk l.length hs → (formS l hs = 1 ∨ formS l hs = 0) ∧ (formS l hs = 1 ↔ ∃ i : Nat, i < l.length ∧ l.getD i 0 ≠ 0 ∧ knownB hs i = false)
  | [], _ => by simp [formS, knownB]
  | h :: hs, hok => by
    have h1 := hok h List.mem_cons_self
    obtain ⟨ih1, ih2⟩ := formS_eq l hs fun p hp => hok p (List.mem_cons_of_mem _ hp)
    have hany : ((l.drop h.1.toNat).take (h.2 - h.1).toNat).any (· != 0) = true ↔ ∃ i : Nat, i < l.length ∧ l.getD i 0 ≠ 0 ∧ (h.1 ≤ (i : Int) ∧ (i : Int) < h.2) := by
      rw [List.any_eq_true]
      constructor
      · rintro ⟨x, hx, hne⟩
        obtain ⟨j, hj, rfl⟩ := List.mem_iff_getElem.1 hx
        have hj2 := hj
        rw [List.length_take, List.length_drop] at hj2
        refine ⟨h.1.toNat + j, by omega, ?_, by omega, by omega⟩
        rw [List.getElem_take, List.getElem_drop] at hne
        rw [List.getD_eq_getElem?_getD, List.getElem?_eq_getElem (show h.1.toNat + j < l.length by omega)]
        simpa using hne
      · rintro ⟨i, hi, hne, ha, hb⟩
        have hj : i - h.1.toNat < ((l.drop h.1.toNat).take (h.2 - h.1).toNat).length := by rw [List.length_take, List.length_drop]; omega
        refine ⟨_, List.getElem_mem hj, ?_⟩
        rw [List.getElem_take, List.getElem_drop]
        have e : h.1.toNat + (i - h.1.toNat) = i := by omega
        simp only [e]
        rw [List.getD_eq_getElem?_getD, List.getElem?_eq_getElem hi] at hne
        simpa using hne
    have hk : ∀ i : Nat, knownB (h :: hs) i = false ↔ (h.1 ≤ (i : Int) ∧ (i : Int) < h.2) ∨ knownB hs i = false := by
      intro i
      unfold knownB
      rw [List.any_cons]
      cases hs.any _ <;> simp
    unfold formS
    by_cases hc : ((l.drop h.1.toNat).take (h.2 - h.1).toNat).any (· != 0) = true
    · rw [if_pos hc]
      refine ⟨.inl rfl, ⟨fun _ => ?_, fun _ => rfl⟩⟩
      obtain ⟨i, a, b, c⟩ := hany.1 hc
      exact ⟨i, a, b, (hk i).2 (.inl c)⟩
    · rw [if_neg hc]
      refine ⟨ih1, ih2.trans ⟨fun ⟨i, a, b, c⟩ => ⟨i, a, b, (hk i).2 (.inr c)⟩, fun ⟨i, a, b, c⟩ => ?_⟩⟩
      rcases (hk i).1 c with c | c
      · exact absurd (hany.2 ⟨i, a, b, c⟩) hc
      · exact ⟨i, a, b, c⟩
/-- Where the hole before number k ends. -/
def lastH (hs : List (Int × Int)) (k : Nat) : Int := if k = 0 then -1 else (hs.getD (k - 1) (0, 0)).2
theorem holesS_step (n last : Int) (hs : List (Int × Int)) (k : Nat) (hk : k < hs.length) : holesS n last (hs.drop k) = if holeS n last (hs.getD k (0, 0)) ≠ 0 then holeS n last (hs.getD k (0, 0)) else holesS n (lastH hs (k + 1)) (hs.drop (k + 1)) := by
  rw [List.drop_eq_getElem_cons hk]
  simp only [holesS, lastH, List.getD_eq_getElem?_getD, List.getElem?_eq_getElem hk, Option.getD_some, Nat.add_sub_cancel, Nat.succ_ne_zero, if_false]

theorem bif_and (a b : Bool) : (bif a then b else false) = (a && b) := by cases a <;> rfl
theorem bif_or (a b : Bool) : (bif a then true else b) = (a || b) := by cases a <;> rfl

theorem knownB_drop (hs : List (Int × Int)) (k : Nat) (hk : k < hs.length) (i : Int) :
    knownB (hs.drop k) i = (!(decide ((hs.getD k (0, 0)).1 ≤ i) && decide (i < (hs.getD k (0, 0)).2)) && knownB (hs.drop (k + 1)) i) := by
  unfold knownB
  rw [List.drop_eq_getElem_cons hk, List.any_cons, Bool.not_or]
  simp only [List.getD_eq_getElem?_getD, List.getElem?_eq_getElem hk, Option.getD_some]

/-- A run: its name, its first place, its samples' words, its holes. -/
structure Rn where
  name : ByteArray
  first : Int
  smp : List Nat
  holes : List (Int × Int)
def floats (l : List Nat) : List Value := l.map (Value.float .f32)
theorem floats_len (l : List Nat) : (floats l).length = l.length := by simp [floats]
def RdR (w : World) (B : Nat) (vv hv : Value) (t : Rn) : Prop := Rd w B 1 vv t.smp.length (floats t.smp) ∧ Rd w B 2 hv t.holes.length (spans t.holes)
/-- Words as the content of a chunk. -/
def flC (l : List Nat) : Cont := .gen l.length 1 fun q => [.float .f32 (l.getD q 0)]
theorem flC_cells (l : List Nat) : (flC l).cells = (floats l).map AV.lit := by
  unfold flC floats
  simp only [Cont.cells, Nat.mul_one, Nat.div_one, Nat.mod_one, List.map_map]
  apply List.ext_getElem
  · simp
  · intro i h1 h2
    simp at h1 h2
    simp [List.getElem?_eq_getElem h1]

/-- Sixteen times a sample; a word cut to an integer. -/
def x16 (b : Nat) : Nat := (FloatKind.f32.format.mul b 1098907648).getD 0
def cutW (b : Nat) : Int := (fltToInt .f32 b .i64).getD 0
def ltW (a b : Nat) : Bool := FloatKind.f32.format.order a b == some .lt
def gtW (a b : Nat) : Bool := FloatKind.f32.format.order a b == some .gt
/-- The error of a sample. -/
def partS (b : Nat) : Int := if fin b = false then 1 else if (ltW b (FloatKind.f32.nearest (-1024)) || gtW b (FloatKind.f32.nearest 1024)) = true then 3 else whenS (!Op.floatEq .f32 (x16 b) (FloatKind.f32.nearest (cutW (x16 b)))) 3
/-- Whether a sample is not 0. -/
def nzF (b : Nat) : Int := if Op.floatEq .f32 b 0 = true then 0 else 1
def headR (r : Rn) : Int := firstS [whenS (!nameOk r.name) 8, withinS r.first 0 100000000, whenS (decide (4096 < (r.smp.length : Int))) 5]
def bodyR (r : Rn) : Int := firstS [firstS (r.smp.map partS), whenS (decide (100000000 < r.first + (r.smp.length : Int))) 4]
def runE (r : Rn) : Int :=
  if headR r ≠ 0 then headR r else if bodyR r ≠ 0 then bodyR r else
  if holesS r.smp.length (-1) r.holes ≠ 0 then holesS r.smp.length (-1) r.holes else formS (r.smp.map nzF) r.holes
theorem part_cut {b : Nat} (h : partS b = 0) : (FloatKind.f32.format.mul b 1098907648).isSome = true ∧ (fltToInt .f32 (x16 b) .i64).isSome = true := by
  unfold partS at h
  split at h
  · cases h
  · rename_i hf
    split at h
    · cases h
    · rename_i hr
      have hf : fin b = true := by cases e : fin b <;> simp_all
      simp only [Bool.or_eq_true, not_or, Bool.not_eq_true] at hr
      obtain ⟨r, h1, h2⟩ := times16 hf hr.1 hr.2
      unfold x16
      rw [h1]
      exact ⟨rfl, h2⟩
theorem part_cut' {b : Nat} (hf : fin b = true) (hr : (ltW b (FloatKind.f32.nearest (-1024)) || gtW b (FloatKind.f32.nearest 1024)) = false) : (FloatKind.f32.format.mul b 1098907648).isSome = true ∧ (fltToInt .f32 (x16 b) .i64).isSome = true := by
  simp only [Bool.or_eq_false_iff] at hr
  obtain ⟨r, h1, h2⟩ := times16 hf hr.1 hr.2
  unfold x16
  rw [h1]
  exact ⟨rfl, h2⟩

end Go.Proofs.YtoopgdchiljmiaaGreatDoor

namespace Go.Proofs.YtoopgdchiljmiaaGreatDoor
open Go.RowKit Go.Sym

theorem nan_not (x y t : Nat) : Op.floatEq .f32 ((Question.nanBits .f32 x y).cut t) 0 = false := by
  have k1 : FloatKind.f32.format.signWeight = 2147483648 := by decide +kernel
  have k2 : FloatKind.f32.format.binade = 8388608 := by decide +kernel
  have k3 : FloatKind.f32.format.infRung = 2139095040 := by decide +kernel
  have e : ∃ s f, Ieee.Format.read FloatKind.f32.format ((Question.nanBits .f32 x y).cut t) = .nan s f := by
    simp only [Question.cut]
    unfold Ieee.Format.read
    simp only [k1, k2, k3]
    have h1 : t / 2 % (2 ^ 23 - 1) < 8388607 := Nat.mod_lt _ (by decide)
    have h2 : (t % 2 * 2 ^ 31 + 0x7f800000 + 1 + t / 2 % (2 ^ 23 - 1)) % 2147483648 = 2139095041 + t / 2 % (2 ^ 23 - 1) := by omega
    rw [h2, if_neg (by omega), if_neg (by omega), if_neg (by omega)]
    exact ⟨_, _, rfl⟩
  obtain ⟨s, f, e⟩ := e
  unfold Op.floatEq Ieee.Format.order
  rw [e]
  rfl
theorem run_sub_nan {P : Program} {w : World} {b : Nat} (t : TypeId) (h : fin b = false) : ∃ r, (binOp .sub t (.float .f32 b) (.float .f32 b)).run P w = .ok (.float .f32 r) w.drew ∧ Op.floatEq .f32 r 0 = false := by
  refine ⟨_, ?_, nan_not b b (w.tape w.drawn (.nanBits .f32 b b))⟩
  simp [binOp, Op.floatArith, sub_self_inf h, Question.forced]

section
variable {cfg : Cfg} {F : Frm} {T : List (Nat × AV)} {H : List (Nat × Chunk)} {nx : Nat} {ρ : Env} {a : Act} {w : World}
theorem holds_drew (h : Holds F T H nx ρ a w) : Holds F T H nx ρ a w.drew := h.drew
theorem op_wpIn {ops : Array Oper} {i : Nat} {o : Oper} {K : Act → World → Prop} {Q : Exit → Act → World → Prop} {v : Value} {w' : World} (ho : ops[i]? = some o) (hg : o.guard = none) (hd : ∀ c, o.op ≠ .defer c) (hr : (execOp a.eval o).run F.P w = .ok (.value v) w') (hK : K (a.put o.dst v) w') : wpOpIn (fen F.rd) 2 F.P ops Q i K a w :=
  wpOpIn_on ho (by simp [Region.wanted, hg]) (wpIn_ok hd hr (.inl rfl) hK)
/-- 'x - x != 0' of a word that is no number. -/
theorem lwp_nan (hC : CfgOk F cfg) {id : Nat} {ops : Array Oper} {Q : Exit → St → Prop} {b : Nat} {t0 t1 t2 t3 : TypeId} {o0 o1 o2 o3 : Oper} (hf : fin b = false) (hT : Sym.look 0 T = some (.lit (.float .f32 b)))
    (hs : ops.size = 4) (h0 : ops[0]? = some o0) (h1 : ops[1]? = some o1) (h2 : ops[2]? = some o2) (h3 : ops[3]? = some o3) (g0 : o0.guard = none) (g1 : o1.guard = none) (g2 : o2.guard = none) (g3 : o3.guard = none)
    (d0 : o0.dst = some 5) (d1 : o1.dst = some 6) (d2 : o2.dst = some 7) (d3 : o3.dst = some 8)
    (e0 : o0.op = .move (.tmp 0)) (e1 : o1.op = .move (.tmp 0)) (e2 : o2.op = .binOp .sub t0 (.tmp 5) (.tmp 6) t1) (e3 : o3.op = .binOp .neq t2 (.tmp 7) (.const (.float .f32 0)) t3)
    (hn : Nat.ble 9 cfg.nt = true) (h7 : Sym.look 7 T = none) (hq : Q .normal ⟨(8, .lit (.bool true)) :: (6, .lit (.float .f32 b)) :: (5, .lit (.float .f32 b)) :: T, H, nx⟩) : LWP F (.region id ops false) Q ⟨T, H, nx⟩ := ⟨fun ρ a w hH => by
  refine wpIn_region ?_
  have hr : List.range ops.size = [0, 1, 2, 3] := by rw [hs]; rfl
  have hn := Nat.le_of_ble_eq_true hn
  have put : ∀ {T : List (Nat × AV)} {a : Act} {w : World} {k : Nat} {v : Value}, k < 9 → Holds F T H nx ρ a w → Holds F ((k, .lit v) :: T) H nx ρ (a.put (some k) v) w := fun {T a w k v} hk h =>
    putT_sound hC h (d := some k) (r := .lit v) (by simp only [putT]; rw [show Nat.blt k cfg.nt = true from Nat.ble_eq_true_of_le (by omega)]) (by simp [AV.den])
  have at_ : ∀ {T : List (Nat × AV)} {a : Act} {w : World} {k : Nat} {v : Value}, Holds F T H nx ρ a w → Sym.look k T = some (.lit v) → a.eval (.tmp k) = v := fun {T a w k v} h hl => by
    obtain ⟨u, hu, hv⟩ := h.I.tm k _ hl
    simp only [AV.den, Option.some.injEq] at hu
    subst hu
    exact eval_tmp hv
  have hH : Holds F T H nx ρ a w := hH
  rw [hr, wpOpsIn_cons]
  refine op_wpIn h0 g0 (by rw [e0]; intro c hc; cases hc) (v := .float .f32 b) (w' := w) (by simp [execOp, e0, at_ hH hT]) ?_
  rw [d0]
  have H1 := put (k := 5) (v := .float .f32 b) (by omega) hH
  rw [wpOpsIn_cons]
  refine op_wpIn h1 g1 (by rw [e1]; intro c hc; cases hc) (v := .float .f32 b) (w' := w) (by simp [execOp, e1, at_ H1 (show Sym.look 0 ((5, AV.lit (.float .f32 b)) :: T) = _ from hT)]) ?_
  rw [d1]
  have H2 := put (k := 6) (v := .float .f32 b) (by omega) H1
  rw [wpOpsIn_cons]
  obtain ⟨r, hr2, hne⟩ := run_sub_nan (P := F.P) (w := w) t0 hf
  refine op_wpIn h2 g2 (by rw [e2]; intro c hc; cases hc) (v := .float .f32 r) (w' := w.drew) (by simp only [execOp, e2, at_ H2 (k := 5) rfl, at_ H2 (k := 6) rfl, Sem.run_bind, eqGuard_flt, Result.andThen_ok, hr2, Sem.run_pure]) ?_
  rw [d2]
  have H3 := put (k := 7) (v := .float .f32 r) (by omega) (holds_drew H2)
  rw [wpOpsIn_cons]
  have hr3 : (binOp .neq t2 (.float .f32 r) (.float .f32 0)).run F.P w.drew = .ok (.bool true) w.drew := by
    have : (FloatKind.f32.format.order r 0 == some .eq) = false := hne
    simp [binOp, Op.floatCmp, bne, this]
  refine op_wpIn h3 g3 (by rw [e3]; intro c hc; cases hc) (v := .bool true) (w' := w.drew) (by simp only [execOp, e3, at_ H3 (k := 7) rfl, show ∀ (a : Act) v, a.eval (.const v) = v from fun _ _ => rfl, Sem.run_bind, eqGuard_flt, Result.andThen_ok, hr3, Sem.run_pure]) ?_
  rw [d3]
  have H4 := put (k := 8) (v := .bool true) (by omega) H3
  simp only [wpOpsIn]
  refine ⟨_, ρ, hq, H4.m, H4.I.sub (fun _ _ _ e => e) (fun k v e => ?_) (fun _ _ e => e)⟩
  simp only [look_cons] at e ⊢
  by_cases k8 : k = 8
  · rw [if_pos k8] at e ⊢; exact e
  · rw [if_neg k8] at e ⊢
    by_cases k7 : k = 7
    · subst k7
      rw [if_neg (by decide), if_neg (by decide), h7] at e
      cases e
    · rw [if_neg k7]; exact e⟩
end

end Go.Proofs.YtoopgdchiljmiaaGreatDoor

namespace Go.Proofs.YtoopgdchiljmiaaGreatDoor
open Go.RowKit Go.Sym

def fl (b : Nat) : AV := .lit (.float .f32 b)
def SWhen_i (b : Bool) (e : Int) : Inst := { f := 176, hin := [], args := [bl b, i64 e], hout := [], ret := i64 (whenS b e), σ := [] }
theorem SWhen_s (b : Bool) (e : Int) : (SWhen_i b e).ok Tryz.prog := by
  unfold SWhen_i Inst.ok; dsimp only; refine spec_of_body (tys := tys) 0 Tryz.func176 (by kernel_rfl) rfl tys_ok rfl (Nat.le_of_ble_eq_true rfl) (fun _ _ h => (by cases h)) fun F hP hm hC hrd => ?_; conv => whnf
  repeat first | refine lwp_seq fun K hK => ?_ | ((with_reducible refine gA ?_); apply_assumption -exfalso -symm) | refine gB ?_ | refine gC ?_ | refine gD ?_ | refine gE ?_ | refine gF rfl ?_ | refine gG rfl ?_ | refine gH ?_ | refine gI ?_ | refine gJ ?_ | refine gK ?_ | refine gL ?_ | refine lwp_region hC ⟨[], [], []⟩ (told0 _ _) rfl ⟨⟩ ?_ | refine lwp_region hC ⟨[], [], []⟩ (told0 _ _) rfl (by exact sd) ?_
  (refine lwp_cond hC rfl (by first | exact ⟨⟩ | exact sd) (fun hb => ?_) (fun hb => ?_) <;> (try simp only [decide_eq_true_eq, decide_eq_false_iff_not, Bool.not_eq_true', Bool.not_eq_false', ne_eq, Decidable.not_not] at hb))
  · repeat first | refine lwp_seq fun K hK => ?_ | ((with_reducible refine gA ?_); apply_assumption -exfalso -symm) | refine gB ?_ | refine gC ?_ | refine gD ?_ | refine gE ?_ | refine gF rfl ?_ | refine gG rfl ?_ | refine gH ?_ | refine gI ?_ | refine gJ ?_ | refine gK ?_ | refine gL ?_ | refine lwp_region hC ⟨[], [], []⟩ (told0 _ _) rfl ⟨⟩ ?_ | refine lwp_region hC ⟨[], [], []⟩ (told0 _ _) rfl (by exact sd) ?_
    (refine end_intro (by first | exact .inr rfl | exact .inl rfl) [] rfl ?_)
    subst hb; exact ⟨rfl, trivial⟩
  · repeat first | refine lwp_seq fun K hK => ?_ | ((with_reducible refine gA ?_); apply_assumption -exfalso -symm) | refine gB ?_ | refine gC ?_ | refine gD ?_ | refine gE ?_ | refine gF rfl ?_ | refine gG rfl ?_ | refine gH ?_ | refine gI ?_ | refine gJ ?_ | refine gK ?_ | refine gL ?_ | refine lwp_region hC ⟨[], [], []⟩ (told0 _ _) rfl ⟨⟩ ?_ | refine lwp_region hC ⟨[], [], []⟩ (told0 _ _) rfl (by exact sd) ?_
    (refine end_intro (by first | exact .inr rfl | exact .inl rfl) [] rfl ?_)
    subst hb; exact ⟨rfl, trivial⟩
def SWithin_i (n lo hi : Int) : Inst := { f := 178, hin := [], args := [i64 n, i64 lo, i64 hi], hout := [], ret := i64 (withinS n lo hi), σ := [] }
theorem SWithin_s (n lo hi : Int) : (SWithin_i n lo hi).ok Tryz.prog := by
  have e : withinS n lo hi = whenS (decide (n < lo) || decide (hi < n)) 3 := by
    unfold withinS whenS
    by_cases h : n < lo <;> by_cases h' : hi < n <;> simp [h, h']
  unfold SWithin_i; rw [e]
  unfold Inst.ok; dsimp only; refine spec_of_body (tys := tys) 0 Tryz.func178 (by kernel_rfl) rfl tys_ok rfl (Nat.le_of_ble_eq_true rfl) (fun _ _ h => (by cases h)) fun F hP hm hC hrd => ?_; conv => whnf
  repeat first | refine lwp_seq fun K hK => ?_ | ((with_reducible refine gA ?_); apply_assumption -exfalso -symm) | refine gB ?_ | refine gC ?_ | refine gD ?_ | refine gE ?_ | refine gF rfl ?_ | refine gG rfl ?_ | refine gH ?_ | refine gI ?_ | refine gJ ?_ | refine gK ?_ | refine gL ?_ | refine lwp_region hC ⟨[], [], []⟩ (told0 _ _) rfl ⟨⟩ ?_ | refine lwp_region hC ⟨[], [], []⟩ (told0 _ _) rfl (by exact sd) ?_
  (refine lwp_region hC ⟨[], [], [(8, SWhen_i (decide (n < lo) || decide (hi < n)) 3)]⟩ (told1 _ (by rw [hP]; exact (calls_cons (SWhen_s _ _) calls_nil))) rfl ?_ ?_; rotate_left 1)
  · repeat first | refine lwp_seq fun K hK => ?_ | ((with_reducible refine gA ?_); apply_assumption -exfalso -symm) | refine gB ?_ | refine gC ?_ | refine gD ?_ | refine gE ?_ | refine gF rfl ?_ | refine gG rfl ?_ | refine gH ?_ | refine gI ?_ | refine gJ ?_ | refine gK ?_ | refine gL ?_ | refine lwp_region hC ⟨[], [], []⟩ (told0 _ _) rfl ⟨⟩ ?_ | refine lwp_region hC ⟨[], [], []⟩ (told0 _ _) rfl (by exact sd) ?_
    (refine end_intro (by first | exact .inr rfl | exact .inl rfl) [] rfl ?_)
    exact ⟨rfl, trivial⟩
  · exact sd
def SFirst_i (l : List Int) (σ : Ren) : Inst := { f := 175, hin := [(0, .ro l.length 1 (.ints .i64 l))], args := [.sl 0 l.length], hout := [], ret := i64 (firstS l), σ := σ }
theorem SFirst_s (l : List Int) (σ : Ren) (hl : l.length ≤ 1048576) : (SFirst_i l σ).ok Tryz.prog := by
  unfold SFirst_i Inst.ok; dsimp only; refine spec_of_body (tys := tys) 1 Tryz.func175 (by kernel_rfl) rfl tys_ok rfl (Nat.le_of_ble_eq_true rfl) (fun _ _ h => (by cases h)) fun F hP hm hC hrd => ?_; conv => whnf
  repeat first | refine lwp_seq fun K hK => ?_ | ((with_reducible refine gA ?_); apply_assumption -exfalso -symm) | refine gB ?_ | refine gC ?_ | refine gD ?_ | refine gE ?_ | refine gF rfl ?_ | refine gG rfl ?_ | refine gH ?_ | refine gI ?_ | refine gJ ?_ | refine gK ?_ | refine gL ?_ | refine lwp_region hC ⟨[], [], []⟩ (told0 _ _) rfl ⟨⟩ ?_ | refine lwp_region hC ⟨[], [], []⟩ (told0 _ _) rfl (by exact sd) ?_
  refine lwp_loop (fun k : Nat => ⟨[(7, i64 k), (6, i64 l.length), (5, .sl 0 l.length)], [(0, .ro l.length 1 (.ints .i64 l))], 1⟩) (fun k => k ≤ l.length ∧ firstS l = firstS (l.drop k)) (fun k => l.length - k) 0 ⟨?_, sub_intro hm [(0, some 0)] rfl ?_⟩ ?_
  · exact ⟨Nat.zero_le _, rfl⟩
  · exact sd
  · rintro k ⟨hk, hf⟩
    repeat first | refine lwp_seq fun K hK => ?_ | ((with_reducible refine gA ?_); apply_assumption -exfalso -symm) | refine gB ?_ | refine gC ?_ | refine gD ?_ | refine gE ?_ | refine gF rfl ?_ | refine gG rfl ?_ | refine gH ?_ | refine gI ?_ | refine gJ ?_ | refine gK ?_ | refine gL ?_ | refine lwp_region hC ⟨[], [], []⟩ (told0 _ _) rfl ⟨⟩ ?_ | refine lwp_region hC ⟨[], [], []⟩ (told0 _ _) rfl (by exact sd) ?_
    (refine lwp_cond hC rfl (by first | exact ⟨⟩ | exact sd) (fun hb => ?_) (fun hb => ?_) <;> (try simp only [decide_eq_true_eq, decide_eq_false_iff_not, Bool.not_eq_true', Bool.not_eq_false', ne_eq, Decidable.not_not] at hb))
    · repeat first | refine lwp_seq fun K hK => ?_ | ((with_reducible refine gA ?_); apply_assumption -exfalso -symm) | refine gB ?_ | refine gC ?_ | refine gD ?_ | refine gE ?_ | refine gF rfl ?_ | refine gG rfl ?_ | refine gH ?_ | refine gI ?_ | refine gJ ?_ | refine gK ?_ | refine gL ?_ | refine lwp_region hC ⟨[], [], []⟩ (told0 _ _) rfl ⟨⟩ ?_ | refine lwp_region hC ⟨[], [], []⟩ (told0 _ _) rfl (by exact sd) ?_
      (refine lwp_cond hC rfl (by first | exact ⟨⟩ | exact sd) (fun hb => ?_) (fun hb => ?_) <;> (try simp only [decide_eq_true_eq, decide_eq_false_iff_not, Bool.not_eq_true', Bool.not_eq_false', ne_eq, Decidable.not_not] at hb))
      · repeat first | refine lwp_seq fun K hK => ?_ | ((with_reducible refine gA ?_); apply_assumption -exfalso -symm) | refine gB ?_ | refine gC ?_ | refine gD ?_ | refine gE ?_ | refine gF rfl ?_ | refine gG rfl ?_ | refine gH ?_ | refine gI ?_ | refine gJ ?_ | refine gK ?_ | refine gL ?_ | refine lwp_region hC ⟨[], [], []⟩ (told0 _ _) rfl ⟨⟩ ?_ | refine lwp_region hC ⟨[], [], []⟩ (told0 _ _) rfl (by exact sd) ?_
        (refine end_intro (by first | exact .inr rfl | exact .inl rfl) [] rfl ?_)
        refine ⟨?_, trivial⟩
        simp only [Int.toNat_natCast] at hb ⊢
        rw [hf, List.drop_eq_getElem_cons (by omega)]
        simp only [List.getD_eq_getElem?_getD, List.getElem?_eq_getElem (show k < l.length by omega), Option.getD_some] at hb ⊢
        simp [firstS, hb]
      · repeat first | refine lwp_seq fun K hK => ?_ | ((with_reducible refine gA ?_); apply_assumption -exfalso -symm) | refine gB ?_ | refine gC ?_ | refine gD ?_ | refine gE ?_ | refine gF rfl ?_ | refine gG rfl ?_ | refine gH ?_ | refine gI ?_ | refine gJ ?_ | refine gK ?_ | refine gL ?_ | refine lwp_region hC ⟨[], [], []⟩ (told0 _ _) rfl ⟨⟩ ?_ | refine lwp_region hC ⟨[], [], []⟩ (told0 _ _) rfl (by exact sd) ?_
        refine gA ⟨k + 1, ?_, ?_, sub_intro hm [(0, some 0)] rfl ?_⟩
        · refine ⟨by omega, ?_⟩
          rw [hf]
          simp only [Int.toNat_natCast, List.getD_eq_getElem?_getD, List.getElem?_eq_getElem (show k < l.length by omega), Option.getD_some] at hb
          exact rfirst_drop l k (by omega) hb
        · omega
        · exact sd
    · repeat first | refine lwp_seq fun K hK => ?_ | ((with_reducible refine gA ?_); apply_assumption -exfalso -symm) | refine gB ?_ | refine gC ?_ | refine gD ?_ | refine gE ?_ | refine gF rfl ?_ | refine gG rfl ?_ | refine gH ?_ | refine gI ?_ | refine gJ ?_ | refine gK ?_ | refine gL ?_ | refine lwp_region hC ⟨[], [], []⟩ (told0 _ _) rfl ⟨⟩ ?_ | refine lwp_region hC ⟨[], [], []⟩ (told0 _ _) rfl (by exact sd) ?_
      (refine end_intro (by first | exact .inr rfl | exact .inl rfl) [] rfl ?_)
      refine ⟨?_, trivial⟩
      rw [hf, List.drop_of_length_le (by omega)]
      rfl

def Part_i (b : Nat) : Inst := { f := 194, hin := [], args := [fl b, i64 1024], hout := [], ret := i64 (partS b), σ := [] }
theorem Part_s (b : Nat) : (Part_i b).ok Tryz.prog := by
  unfold Part_i Inst.ok; dsimp only; refine spec_of_body (tys := tys) 0 Tryz.func194 (by kernel_rfl) rfl tys_ok rfl (Nat.le_of_ble_eq_true rfl) (fun _ _ h => (by cases h)) fun F hP hm hC hrd => ?_; conv => whnf
  cases hf : fin b with
  | false =>
    have e : partS b = 1 := by unfold partS; rw [if_pos hf]
    refine lwp_seq fun K hK => ?_
    refine lwp_region hC ⟨[], [], []⟩ (told0 _ _) rfl True.intro ?_
    refine gA ?_
    apply_assumption -exfalso -symm
    refine lwp_seq fun K hK => ?_
    refine lwp_seq fun K hK => ?_
    refine lwp_nan hC hf rfl rfl rfl rfl rfl rfl rfl rfl rfl rfl rfl rfl rfl rfl rfl rfl rfl rfl rfl rfl ?_
    repeat first | refine lwp_seq fun K hK => ?_ | ((with_reducible refine gA ?_); apply_assumption -exfalso -symm) | refine gB ?_ | refine gC ?_ | refine gD ?_ | refine gE ?_ | refine gF rfl ?_ | refine gG rfl ?_ | refine gH ?_ | refine gI ?_ | refine gJ ?_ | refine gK ?_ | refine gL ?_ | refine lwp_region hC ⟨[], [], []⟩ (told0 _ _) rfl ⟨⟩ ?_ | refine lwp_region hC ⟨[], [], []⟩ (told0 _ _) rfl (by exact sd) ?_
    (refine lwp_cond hC rfl (by first | exact ⟨⟩ | exact sd) (fun hb => ?_) (fun hb => ?_) <;> (try simp only [decide_eq_true_eq, decide_eq_false_iff_not, Bool.not_eq_true', Bool.not_eq_false', ne_eq, Decidable.not_not] at hb))
    · repeat first | refine lwp_seq fun K hK => ?_ | ((with_reducible refine gA ?_); apply_assumption -exfalso -symm) | refine gB ?_ | refine gC ?_ | refine gD ?_ | refine gE ?_ | refine gF rfl ?_ | refine gG rfl ?_ | refine gH ?_ | refine gI ?_ | refine gJ ?_ | refine gK ?_ | refine gL ?_ | refine lwp_region hC ⟨[], [], []⟩ (told0 _ _) rfl ⟨⟩ ?_ | refine lwp_region hC ⟨[], [], []⟩ (told0 _ _) rfl (by exact sd) ?_
      (refine end_intro (by first | exact .inr rfl | exact .inl rfl) [] rfl ?_)
      exact ⟨e, trivial⟩
    · cases hb
  | true =>
    repeat first | refine lwp_seq fun K hK => ?_ | ((with_reducible refine gA ?_); apply_assumption -exfalso -symm) | refine gB ?_ | refine gC ?_ | refine gD ?_ | refine gE ?_ | refine gF rfl ?_ | refine gG rfl ?_ | refine gH ?_ | refine gI ?_ | refine gJ ?_ | refine gK ?_ | refine gL ?_ | refine lwp_region hC ⟨[], [], []⟩ (told0 _ _) rfl ⟨⟩ ?_
    (refine lwp_region hC ⟨[], [], []⟩ (told0 _ _) rfl ?_ ?_; rotate_left 1)
    · rw [sub_self_fin hf]
      repeat first | refine lwp_seq fun K hK => ?_ | ((with_reducible refine gA ?_); apply_assumption -exfalso -symm) | refine gB ?_ | refine gC ?_ | refine gD ?_ | refine gE ?_ | refine gF rfl ?_ | refine gG rfl ?_ | refine gH ?_ | refine gI ?_ | refine gJ ?_ | refine gK ?_ | refine gL ?_ | refine lwp_region hC ⟨[], [], []⟩ (told0 _ _) rfl ⟨⟩ ?_
      (refine lwp_cond hC rfl (by first | exact ⟨⟩ | exact sd) (fun hb => ?_) (fun hb => ?_) <;> (try simp only [decide_eq_true_eq, decide_eq_false_iff_not, Bool.not_eq_true', Bool.not_eq_false', ne_eq, Decidable.not_not] at hb))
      · exact absurd hb (by decide +kernel)
      · repeat first | refine lwp_seq fun K hK => ?_ | ((with_reducible refine gA ?_); apply_assumption -exfalso -symm) | refine gB ?_ | refine gC ?_ | refine gD ?_ | refine gE ?_ | refine gF rfl ?_ | refine gG rfl ?_ | refine gH ?_ | refine gI ?_ | refine gJ ?_ | refine gK ?_ | refine gL ?_ | refine lwp_region hC ⟨[], [], []⟩ (told0 _ _) rfl ⟨⟩ ?_
        (refine lwp_region hC ⟨[], [], []⟩ (told0 _ _) rfl ?_ ?_; rotate_left 1)
        · repeat first | refine lwp_seq fun K hK => ?_ | ((with_reducible refine gA ?_); apply_assumption -exfalso -symm) | refine gB ?_ | refine gC ?_ | refine gD ?_ | refine gE ?_ | refine gF rfl ?_ | refine gG rfl ?_ | refine gH ?_ | refine gI ?_ | refine gJ ?_ | refine gK ?_ | refine gL ?_ | refine lwp_region hC ⟨[], [], []⟩ (told0 _ _) rfl ⟨⟩ ?_
          rw [bif_or] at *
          (refine lwp_cond hC rfl (by first | exact ⟨⟩ | exact sd) (fun hb => ?_) (fun hb => ?_) <;> (try simp only [decide_eq_true_eq, decide_eq_false_iff_not, Bool.not_eq_true', Bool.not_eq_false', ne_eq, Decidable.not_not] at hb))
          · have hb : (ltW b (FloatKind.f32.nearest (-1024)) || gtW b (FloatKind.f32.nearest 1024)) = true := hb
            have e : partS b = 3 := by
              unfold partS
              rw [if_neg (by rw [hf]; decide), if_pos hb]
            repeat first | refine lwp_seq fun K hK => ?_ | ((with_reducible refine gA ?_); apply_assumption -exfalso -symm) | refine gB ?_ | refine gC ?_ | refine gD ?_ | refine gE ?_ | refine gF rfl ?_ | refine gG rfl ?_ | refine gH ?_ | refine gI ?_ | refine gJ ?_ | refine gK ?_ | refine gL ?_ | refine lwp_region hC ⟨[], [], []⟩ (told0 _ _) rfl ⟨⟩ ?_
            (refine end_intro (by first | exact .inr rfl | exact .inl rfl) [] rfl ?_)
            exact ⟨e, trivial⟩
          · have hb : (ltW b (FloatKind.f32.nearest (-1024)) || gtW b (FloatKind.f32.nearest 1024)) = false := hb
            obtain ⟨c1, c2⟩ := part_cut' hf hb
            have e : partS b = whenS (!Op.floatEq .f32 (x16 b) (FloatKind.f32.nearest (cutW (x16 b)))) 3 := by
              unfold partS
              rw [if_neg (by rw [hf]; decide), if_neg (fun h => by rw [hb] at h; cases h)]
            clear hb
            repeat first | refine lwp_seq fun K hK => ?_ | ((with_reducible refine gA ?_); apply_assumption -exfalso -symm) | refine gB ?_ | refine gC ?_ | refine gD ?_ | refine gE ?_ | refine gF rfl ?_ | refine gG rfl ?_ | refine gH ?_ | refine gI ?_ | refine gJ ?_ | refine gK ?_ | refine gL ?_ | refine lwp_region hC ⟨[], [], []⟩ (told0 _ _) rfl ⟨⟩ ?_
            (refine lwp_region hC ⟨[], [], [(7, SWhen_i (!Op.floatEq .f32 (x16 b) (FloatKind.f32.nearest (cutW (x16 b)))) 3)]⟩ (told1 _ (by rw [hP]; exact (calls_cons (SWhen_s _ _) calls_nil))) rfl ?_ ?_; rotate_left 1)
            · repeat first | refine lwp_seq fun K hK => ?_ | ((with_reducible refine gA ?_); apply_assumption -exfalso -symm) | refine gB ?_ | refine gC ?_ | refine gD ?_ | refine gE ?_ | refine gF rfl ?_ | refine gG rfl ?_ | refine gH ?_ | refine gI ?_ | refine gJ ?_ | refine gK ?_ | refine gL ?_ | refine lwp_region hC ⟨[], [], []⟩ (told0 _ _) rfl ⟨⟩ ?_
              (refine end_intro (by first | exact .inr rfl | exact .inl rfl) [] rfl ?_)
              exact ⟨e, trivial⟩
            · exact ⟨⟨rfl, rfl, trivial⟩, ⟨c2, trivial⟩, ⟨c1, trivial⟩, ⟨c1, trivial⟩, trivial⟩
        · simp only [AllL, All, cd_p, cp_p, cv_p, InK]
          cases FloatKind.f32.format.order b (FloatKind.f32.nearest (-1024)) == some Ordering.lt <;> simp
    · exact ⟨⟨by rw [sub_self_fin hf]; rfl, trivial⟩, trivial⟩
def SSample_i (b : Nat) : Inst := { f := 153, hin := [], args := [fl b], hout := [], ret := i64 (partS b), σ := [] }
theorem SSample_s (b : Nat) : (SSample_i b).ok Tryz.prog := by
  unfold SSample_i Inst.ok; dsimp only; refine spec_of_body (tys := tys) 0 Tryz.func153 (by kernel_rfl) rfl tys_ok rfl (Nat.le_of_ble_eq_true rfl) (fun _ _ h => (by cases h)) fun F hP hm hC hrd => ?_; conv => whnf
  repeat first | refine lwp_seq fun K hK => ?_ | ((with_reducible refine gA ?_); apply_assumption -exfalso -symm) | refine gB ?_ | refine gC ?_ | refine gD ?_ | refine gE ?_ | refine gF rfl ?_ | refine gG rfl ?_ | refine gH ?_ | refine gI ?_ | refine gJ ?_ | refine gK ?_ | refine gL ?_ | refine lwp_region hC ⟨[], [], []⟩ (told0 _ _) rfl ⟨⟩ ?_
  (refine lwp_region hC ⟨[], [], [(1, Part_i b)]⟩ (told1 _ (by rw [hP]; exact (calls_cons (Part_s _) calls_nil))) rfl ?_ ?_; rotate_left 1)
  · repeat first | refine lwp_seq fun K hK => ?_ | ((with_reducible refine gA ?_); apply_assumption -exfalso -symm) | refine gB ?_ | refine gC ?_ | refine gD ?_ | refine gE ?_ | refine gF rfl ?_ | refine gG rfl ?_ | refine gH ?_ | refine gI ?_ | refine gJ ?_ | refine gK ?_ | refine gL ?_ | refine lwp_region hC ⟨[], [], []⟩ (told0 _ _) rfl ⟨⟩ ?_
    (refine end_intro (by first | exact .inr rfl | exact .inl rfl) [] rfl ?_)
    exact sd
  · exact sd

/-- The reference's test is the same one. -/
theorem part_ref (b : Nat) (hf : fin b = true) : (ltW b (FloatKind.f32.nearest (-1024)) || gtW b (FloatKind.f32.nearest 1024)) = false → partS b = if (!Op.floatEq .f32 (FloatKind.f32.nearest (cutW (x16 b))) (x16 b)) = true then 3 else 0 := by
  intro hr
  unfold partS
  rw [if_neg (by rw [hf]; decide), if_neg (by rw [hr]; decide)]
  have : Op.floatEq .f32 (x16 b) (FloatKind.f32.nearest (cutW (x16 b))) = Op.floatEq .f32 (FloatKind.f32.nearest (cutW (x16 b))) (x16 b) := floatEq_comm _ _
  rw [this]
  rfl
def RPart_i (b : Nat) : Inst := { f := 195, hin := [], args := [fl b, i64 1024], hout := [], ret := i64 (partS b), σ := [] }
theorem RPart_s (b : Nat) : (RPart_i b).ok Tryz.prog := by
  unfold RPart_i Inst.ok; dsimp only; refine spec_of_body (tys := tys) 0 Tryz.func195 (by kernel_rfl) rfl tys_ok rfl (Nat.le_of_ble_eq_true rfl) (fun _ _ h => (by cases h)) fun F hP hm hC hrd => ?_; conv => whnf
  repeat first | refine lwp_seq fun K hK => ?_ | ((with_reducible refine gA ?_); apply_assumption -exfalso -symm) | refine gB ?_ | refine gC ?_ | refine gD ?_ | refine gE ?_ | refine gF rfl ?_ | refine gG rfl ?_ | refine gH ?_ | refine gI ?_ | refine gJ ?_ | refine gK ?_ | refine gL ?_ | refine lwp_region hC ⟨[], [], []⟩ (told0 _ _) rfl ⟨⟩ ?_
  (refine lwp_region hC ⟨[], [], []⟩ (told0 _ _) rfl ?_ ?_; rotate_left 1)
  · repeat first | refine lwp_seq fun K hK => ?_ | ((with_reducible refine gA ?_); apply_assumption -exfalso -symm) | refine gB ?_ | refine gC ?_ | refine gD ?_ | refine gE ?_ | refine gF rfl ?_ | refine gG rfl ?_ | refine gH ?_ | refine gI ?_ | refine gJ ?_ | refine gK ?_ | refine gL ?_ | refine lwp_region hC ⟨[], [], []⟩ (told0 _ _) rfl ⟨⟩ ?_
    rw [bif_or, bif_or, known_iff]
    (refine lwp_cond hC rfl (by first | exact ⟨⟩ | exact sd) (fun hb => ?_) (fun hb => ?_) <;> (try simp only [decide_eq_true_eq, decide_eq_false_iff_not, Bool.not_eq_true', Bool.not_eq_false', ne_eq, Decidable.not_not] at hb))
    · have e : partS b = 1 := by unfold partS; rw [if_pos (by simpa using hb)]
      repeat first | refine lwp_seq fun K hK => ?_ | ((with_reducible refine gA ?_); apply_assumption -exfalso -symm) | refine gB ?_ | refine gC ?_ | refine gD ?_ | refine gE ?_ | refine gF rfl ?_ | refine gG rfl ?_ | refine gH ?_ | refine gI ?_ | refine gJ ?_ | refine gK ?_ | refine gL ?_ | refine lwp_region hC ⟨[], [], []⟩ (told0 _ _) rfl ⟨⟩ ?_
      (refine end_intro (by first | exact .inr rfl | exact .inl rfl) [] rfl ?_)
      exact ⟨e, trivial⟩
    · have hf : fin b = true := by simpa using hb
      repeat first | refine lwp_seq fun K hK => ?_ | ((with_reducible refine gA ?_); apply_assumption -exfalso -symm) | refine gB ?_ | refine gC ?_ | refine gD ?_ | refine gE ?_ | refine gF rfl ?_ | refine gG rfl ?_ | refine gH ?_ | refine gI ?_ | refine gJ ?_ | refine gK ?_ | refine gL ?_ | refine lwp_region hC ⟨[], [], []⟩ (told0 _ _) rfl ⟨⟩ ?_
      have key : (ltW b (FloatKind.f32.nearest (-1024)) || gtW b (FloatKind.f32.nearest 1024)) = false → (FloatKind.f32.format.mul b 1098907648).isSome = true ∧ (fltToInt .f32 (x16 b) .i64).isSome = true := part_cut' hf
      have e : partS b = if ((ltW b (FloatKind.f32.nearest (-1024)) || gtW b (FloatKind.f32.nearest 1024)) || !Op.floatEq .f32 (FloatKind.f32.nearest (cutW (x16 b))) (x16 b)) = true then 3 else 0 := by
        cases h : (ltW b (FloatKind.f32.nearest (-1024)) || gtW b (FloatKind.f32.nearest 1024)) with
        | true => unfold partS; rw [if_neg (by rw [hf]; decide), if_pos h]; rfl
        | false => exact part_ref b hf h
      unfold x16 ltW gtW at key
      unfold cutW x16 ltW gtW at e
      clear hb hf
      (refine lwp_region hC ⟨[], [], []⟩ (told0 _ _) rfl ?_ ?_; rotate_left 1)
      · rw [show (0 : Int) - 1024 = -1024 from rfl, mul_comm16, bif_or, bif_or]
        repeat first | refine lwp_seq fun K hK => ?_ | ((with_reducible refine gA ?_); apply_assumption -exfalso -symm) | refine gB ?_ | refine gC ?_ | refine gD ?_ | refine gE ?_ | refine gF rfl ?_ | refine gG rfl ?_ | refine gH ?_ | refine gI ?_ | refine gJ ?_ | refine gK ?_ | refine gL ?_ | refine lwp_region hC ⟨[], [], []⟩ (told0 _ _) rfl ⟨⟩ ?_
        (refine lwp_cond hC rfl (by first | exact ⟨⟩ | exact sd) (fun hb => ?_) (fun hb => ?_) <;> (try simp only [decide_eq_true_eq, decide_eq_false_iff_not, Bool.not_eq_true', Bool.not_eq_false', ne_eq, Decidable.not_not] at hb))
        · rw [if_pos hb] at e
          repeat first | refine lwp_seq fun K hK => ?_ | ((with_reducible refine gA ?_); apply_assumption -exfalso -symm) | refine gB ?_ | refine gC ?_ | refine gD ?_ | refine gE ?_ | refine gF rfl ?_ | refine gG rfl ?_ | refine gH ?_ | refine gI ?_ | refine gJ ?_ | refine gK ?_ | refine gL ?_ | refine lwp_region hC ⟨[], [], []⟩ (told0 _ _) rfl ⟨⟩ ?_
          (refine end_intro (by first | exact .inr rfl | exact .inl rfl) [] rfl ?_)
          exact ⟨e, trivial⟩
        · rw [if_neg (by rw [hb]; decide)] at e
          repeat first | refine lwp_seq fun K hK => ?_ | ((with_reducible refine gA ?_); apply_assumption -exfalso -symm) | refine gB ?_ | refine gC ?_ | refine gD ?_ | refine gE ?_ | refine gF rfl ?_ | refine gG rfl ?_ | refine gH ?_ | refine gI ?_ | refine gJ ?_ | refine gK ?_ | refine gL ?_ | refine lwp_region hC ⟨[], [], []⟩ (told0 _ _) rfl ⟨⟩ ?_
          (refine end_intro (by first | exact .inr rfl | exact .inl rfl) [] rfl ?_)
          exact ⟨e, trivial⟩
      · rw [show (0 : Int) - 1024 = -1024 from rfl, mul_comm16]
        clear e
        revert key
        simp only [AllL, All, cd_p, cp_p, InK]
        generalize (FloatKind.f32.format.order b (FloatKind.f32.nearest (-1024)) == some Ordering.lt) = p
        generalize (FloatKind.f32.format.order b (FloatKind.f32.nearest 1024) == some Ordering.gt) = q
        cases p <;> cases q <;> simp
        intro h1 h2
        simp [h1, h2]
  · simp only [AllL, All, cd_p, cp_p]
    generalize Op.floatEq FloatKind.f32 b b = p
    generalize (FloatKind.f32.format.order b 2139095039 == some Ordering.gt) = q
    revert p q
    decide
def RSample_i (b : Nat) : Inst := { f := 156, hin := [], args := [fl b], hout := [], ret := i64 (partS b), σ := [] }
theorem RSample_s (b : Nat) : (RSample_i b).ok Tryz.prog := by
  unfold RSample_i Inst.ok; dsimp only; refine spec_of_body (tys := tys) 0 Tryz.func156 (by kernel_rfl) rfl tys_ok rfl (Nat.le_of_ble_eq_true rfl) (fun _ _ h => (by cases h)) fun F hP hm hC hrd => ?_; conv => whnf
  repeat first | refine lwp_seq fun K hK => ?_ | ((with_reducible refine gA ?_); apply_assumption -exfalso -symm) | refine gB ?_ | refine gC ?_ | refine gD ?_ | refine gE ?_ | refine gF rfl ?_ | refine gG rfl ?_ | refine gH ?_ | refine gI ?_ | refine gJ ?_ | refine gK ?_ | refine gL ?_ | refine lwp_region hC ⟨[], [], []⟩ (told0 _ _) rfl ⟨⟩ ?_
  (refine lwp_region hC ⟨[], [], [(1, RPart_i b)]⟩ (told1 _ (by rw [hP]; exact (calls_cons (RPart_s _) calls_nil))) rfl ?_ ?_; rotate_left 1)
  · repeat first | refine lwp_seq fun K hK => ?_ | ((with_reducible refine gA ?_); apply_assumption -exfalso -symm) | refine gB ?_ | refine gC ?_ | refine gD ?_ | refine gE ?_ | refine gF rfl ?_ | refine gG rfl ?_ | refine gH ?_ | refine gI ?_ | refine gJ ?_ | refine gK ?_ | refine gL ?_ | refine lwp_region hC ⟨[], [], []⟩ (told0 _ _) rfl ⟨⟩ ?_
    (refine end_intro (by first | exact .inr rfl | exact .inl rfl) [] rfl ?_)
    exact sd
  · exact sd

end Go.Proofs.YtoopgdchiljmiaaGreatDoor

namespace Go.Proofs.YtoopgdchiljmiaaGreatDoor
open Go.RowKit Go.Sym

theorem fl_get {l : List Nat} {k : Nat} (h : k < l.length) : l.getD k 0 = l[k] := by rw [List.getD_eq_getElem?_getD, List.getElem?_eq_getElem h]; rfl
def FMapped_i (l : List Nat) (σ : Ren) : Inst := { f := 179, hin := [(0, .ro l.length 1 (flC l))], args := [.sl 0 l.length, .fn 153 [] []], hout := [(1, .row 32 l.length 1 (.ints .i64 (l.map partS)))], ret := .sl 1 l.length, σ := σ }
set_option maxRecDepth 20000 in
set_option maxHeartbeats 4000000 in
theorem FMapped_s (l : List Nat) (σ : Ren) (hl : l.length ≤ 100000) : (FMapped_i l σ).ok Tryz.prog := by
  unfold FMapped_i Inst.ok; dsimp only; refine spec_of_body (tys := tys) 1 Tryz.func179 (by kernel_rfl) rfl tys_ok rfl (Nat.le_of_ble_eq_true rfl) (fun _ _ h => (by cases h)) fun F hP hm hC hrd => ?_; conv => whnf
  repeat first | refine lwp_seq fun K hK => ?_ | ((with_reducible refine gA ?_); apply_assumption -exfalso -symm) | refine gB ?_ | refine gC ?_ | refine gD ?_ | refine gE ?_ | refine gF rfl ?_ | refine gG rfl ?_ | refine gH ?_ | refine gI ?_ | refine gJ ?_ | refine gK ?_ | refine gL ?_ | refine lwp_region hC ⟨[], [], []⟩ (told0 _ _) rfl ⟨⟩ ?_
  refine lwp_loop (fun k : Nat => ⟨[(10, i64 k), (9, i64 l.length), (8, .sl 0 l.length), (5, .sl 1 k), (1, .fn 153 [] [])], [(0, .ro l.length 1 (flC l)), (1, .row 32 k 1 (.ints .i64 ((l.take k).map partS)))], 2⟩) (fun k => k ≤ l.length) (fun k => l.length - k) 0 ⟨?_, sub_intro hm [(0, some 0), (1, none)] rfl ?_⟩ ?_
  · exact Nat.zero_le _
  · exact sd
  rintro k hk
  have hkk : ((k : Int)).toNat = k := Int.toNat_natCast k
  repeat first | refine lwp_seq fun K hK => ?_ | ((with_reducible refine gA ?_); apply_assumption -exfalso -symm) | refine gB ?_ | refine gC ?_ | refine gD ?_ | refine gE ?_ | refine gF rfl ?_ | refine gG rfl ?_ | refine gH ?_ | refine gI ?_ | refine gJ ?_ | refine gK ?_ | refine gL ?_ | refine lwp_region hC ⟨[], [], []⟩ (told0 _ _) rfl ⟨⟩ ?_
  (refine lwp_cond hC rfl (by first | exact ⟨⟩ | exact sd) (fun hb => ?_) (fun hb => ?_) <;> (try simp only [decide_eq_true_eq, decide_eq_false_iff_not, Bool.not_eq_true', Bool.not_eq_false', ne_eq, Decidable.not_not] at hb))
  · have hk2 : k < l.length := by omega
    have hsn : (l.take (k + 1)).map partS = (l.take k).map partS ++ [partS (l.getD k 0)] := by rw [take_snoc l 0 k hk2, List.map_append]; rfl
    have HSN := Lib.hid hsn
    clear hsn
    repeat first | refine lwp_seq fun K hK => ?_ | ((with_reducible refine gA ?_); apply_assumption -exfalso -symm) | refine gB ?_ | refine gC ?_ | refine gD ?_ | refine gE ?_ | refine gF rfl ?_ | refine gG rfl ?_ | refine gH ?_ | refine gI ?_ | refine gJ ?_ | refine gK ?_ | refine gL ?_ | refine lwp_region hC ⟨[], [], []⟩ (told0 _ _) rfl ⟨⟩ ?_ | refine lwp_region hC ⟨[], [], []⟩ (told0 _ _) rfl (by exact sd) ?_
    (refine lwp_region hC ⟨[], [], [(3, SSample_i (l.getD k 0))]⟩ (told1 _ (by rw [hP]; exact (calls_cons (SSample_s _) calls_nil))) rfl ?_ ?_; rotate_left 1)
    · repeat first | refine lwp_seq fun K hK => ?_ | ((with_reducible refine gA ?_); apply_assumption -exfalso -symm) | refine gB ?_ | refine gC ?_ | refine gD ?_ | refine gE ?_ | refine gF rfl ?_ | refine gG rfl ?_ | refine gH ?_ | refine gI ?_ | refine gJ ?_ | refine gK ?_ | refine gL ?_ | refine lwp_region hC ⟨[], [], []⟩ (told0 _ _) rfl ⟨⟩ ?_ | refine lwp_region hC ⟨[], [], []⟩ (told0 _ _) rfl (by exact sd) ?_
      refine gA ⟨k + 1, ?_, ?_, sub_intro hm [(0, some 0), (1, some 3)] rfl ?_⟩
      · omega
      · omega
      · rw [HSN.out]; exact sd
    · exact sd
  · obtain rfl : k = l.length := by omega
    repeat first | refine lwp_seq fun K hK => ?_ | ((with_reducible refine gA ?_); apply_assumption -exfalso -symm) | refine gB ?_ | refine gC ?_ | refine gD ?_ | refine gE ?_ | refine gF rfl ?_ | refine gG rfl ?_ | refine gH ?_ | refine gI ?_ | refine gJ ?_ | refine gK ?_ | refine gL ?_ | refine lwp_region hC ⟨[], [], []⟩ (told0 _ _) rfl ⟨⟩ ?_ | refine lwp_region hC ⟨[], [], []⟩ (told0 _ _) rfl (by exact sd) ?_
    rw [List.take_length]
    (refine end_intro (by first | exact .inr rfl | exact .inl rfl) [(1, some 1)] rfl ?_)
    exact sd

/-- Whether a word is not 0. -/
def nzB (b : Nat) : Bool := !Op.floatEq .f32 b 0
def idxF (l : List Nat) : Int := if l.any nzB then ((l.findIdx nzB : Nat) : Int) else -1
theorem idxF_hit {l : List Nat} {k : Nat} (hk : k < l.length) (h : nzB (l.getD k 0) = true) (hb : ∀ i : Nat, i < k → nzB (l.getD i 0) = false) : idxF l = k := by
  have ha : l.any nzB = true := List.any_eq_true.2 ⟨l[k], List.getElem_mem hk, by rw [← fl_get hk]; exact h⟩
  have hf : l.findIdx nzB = k := (List.findIdx_eq hk).2 ⟨by rw [← fl_get hk]; exact h, fun j hj => by rw [← fl_get (by omega)]; exact hb j hj⟩
  unfold idxF
  rw [if_pos ha, hf]
theorem idxF_none {l : List Nat} (hb : ∀ i : Nat, i < l.length → nzB (l.getD i 0) = false) : idxF l = -1 := by
  have ha : ¬ l.any nzB = true := by
    rw [Bool.not_eq_true, List.any_eq_false]
    intro x hx
    obtain ⟨i, hi, rfl⟩ := List.mem_iff_getElem.1 hx
    have := hb i hi
    rw [fl_get hi] at this
    simpa using this
  unfold idxF
  rw [if_neg ha]
theorem idxF_sign (l : List Nat) : decide (idxF l ≥ 0) = l.any nzB := by
  unfold idxF
  cases h : l.any nzB with
  | true => rw [if_pos rfl]; exact decide_eq_true (by omega)
  | false => rw [if_neg (by simp)]; rfl
def Nz_i (b : Nat) : Inst := { f := 215, hin := [], args := [fl b], hout := [], ret := bl (nzB b), σ := [] }
theorem Nz_s (b : Nat) : (Nz_i b).ok Tryz.prog := by
  unfold Nz_i Inst.ok; dsimp only; refine spec_of_body (tys := tys) 0 Tryz.func215 (by kernel_rfl) rfl tys_ok rfl (Nat.le_of_ble_eq_true rfl) (fun _ _ h => (by cases h)) fun F hP hm hC hrd => ?_; conv => whnf
  repeat first | refine lwp_seq fun K hK => ?_ | ((with_reducible refine gA ?_); apply_assumption -exfalso -symm) | refine gB ?_ | refine gC ?_ | refine gD ?_ | refine gE ?_ | refine gF rfl ?_ | refine gG rfl ?_ | refine gH ?_ | refine gI ?_ | refine gJ ?_ | refine gK ?_ | refine gL ?_ | refine lwp_region hC ⟨[], [], []⟩ (told0 _ _) rfl ⟨⟩ ?_
  unfold nzB
  (refine end_intro (by first | exact .inr rfl | exact .inl rfl) [] rfl ?_)
  exact sd
def IxF_i (l : List Nat) (σ : Ren) : Inst := { f := 226, hin := [(0, .ro l.length 1 (flC l))], args := [.sl 0 l.length, .fn 215 [] []], hout := [], ret := i64 (idxF l), σ := σ }
set_option maxRecDepth 20000 in
set_option maxHeartbeats 4000000 in
theorem IxF_s (l : List Nat) (σ : Ren) (hl : l.length ≤ 100000) : (IxF_i l σ).ok Tryz.prog := by
  unfold IxF_i Inst.ok; dsimp only; refine spec_of_body (tys := tys) 1 Tryz.func226 (by kernel_rfl) rfl tys_ok rfl (Nat.le_of_ble_eq_true rfl) (fun _ _ h => (by cases h)) fun F hP hm hC hrd => ?_; conv => whnf
  repeat first | refine lwp_seq fun K hK => ?_ | ((with_reducible refine gA ?_); apply_assumption -exfalso -symm) | refine gB ?_ | refine gC ?_ | refine gD ?_ | refine gE ?_ | refine gF rfl ?_ | refine gG rfl ?_ | refine gH ?_ | refine gI ?_ | refine gJ ?_ | refine gK ?_ | refine gL ?_ | refine lwp_region hC ⟨[], [], []⟩ (told0 _ _) rfl ⟨⟩ ?_
  refine lwp_loop (fun k : Nat => ⟨[(8, i64 k), (7, i64 l.length), (0, .sl 0 l.length), (1, .fn 215 [] [])], [(0, .ro l.length 1 (flC l))], 1⟩) (fun k => k ≤ l.length ∧ ∀ i : Nat, i < k → nzB (l.getD i 0) = false) (fun k => l.length - k) 0 ⟨?_, sub_intro hm [(0, some 0)] rfl ?_⟩ ?_
  · exact ⟨Nat.zero_le _, fun i hi => absurd hi (Nat.not_lt_zero _)⟩
  · exact sd
  rintro k ⟨hk, hf⟩
  have hkk : ((k : Int)).toNat = k := Int.toNat_natCast k
  have HF := Lib.hid hf
  clear hf
  repeat first | refine lwp_seq fun K hK => ?_ | ((with_reducible refine gA ?_); apply_assumption -exfalso -symm) | refine gB ?_ | refine gC ?_ | refine gD ?_ | refine gE ?_ | refine gF rfl ?_ | refine gG rfl ?_ | refine gH ?_ | refine gI ?_ | refine gJ ?_ | refine gK ?_ | refine gL ?_ | refine lwp_region hC ⟨[], [], []⟩ (told0 _ _) rfl ⟨⟩ ?_
  (refine lwp_cond hC rfl (by first | exact ⟨⟩ | exact sd) (fun hb => ?_) (fun hb => ?_) <;> (try simp only [decide_eq_true_eq, decide_eq_false_iff_not, Bool.not_eq_true', Bool.not_eq_false', ne_eq, Decidable.not_not] at hb))
  · have hk2 : k < l.length := by omega
    repeat first | refine lwp_seq fun K hK => ?_ | ((with_reducible refine gA ?_); apply_assumption -exfalso -symm) | refine gB ?_ | refine gC ?_ | refine gD ?_ | refine gE ?_ | refine gF rfl ?_ | refine gG rfl ?_ | refine gH ?_ | refine gI ?_ | refine gJ ?_ | refine gK ?_ | refine gL ?_ | refine lwp_region hC ⟨[], [], []⟩ (told0 _ _) rfl ⟨⟩ ?_
    (refine lwp_region hC ⟨[], [], [(5, Nz_i (l.getD k 0))]⟩ (told1 _ (by rw [hP]; exact (calls_cons (Nz_s _) calls_nil))) rfl ?_ ?_; rotate_left 1)
    · repeat first | refine lwp_seq fun K hK => ?_ | ((with_reducible refine gA ?_); apply_assumption -exfalso -symm) | refine gB ?_ | refine gC ?_ | refine gD ?_ | refine gE ?_ | refine gF rfl ?_ | refine gG rfl ?_ | refine gH ?_ | refine gI ?_ | refine gJ ?_ | refine gK ?_ | refine gL ?_ | refine lwp_region hC ⟨[], [], []⟩ (told0 _ _) rfl ⟨⟩ ?_
      (refine lwp_cond hC rfl (by first | exact ⟨⟩ | exact sd) (fun hb => ?_) (fun hb => ?_) <;> (try simp only [decide_eq_true_eq, decide_eq_false_iff_not, Bool.not_eq_true', Bool.not_eq_false', ne_eq, Decidable.not_not] at hb))
      · rw [idxF_hit hk2 hb HF.out]
        repeat first | refine lwp_seq fun K hK => ?_ | ((with_reducible refine gA ?_); apply_assumption -exfalso -symm) | refine gB ?_ | refine gC ?_ | refine gD ?_ | refine gE ?_ | refine gF rfl ?_ | refine gG rfl ?_ | refine gH ?_ | refine gI ?_ | refine gJ ?_ | refine gK ?_ | refine gL ?_ | refine lwp_region hC ⟨[], [], []⟩ (told0 _ _) rfl ⟨⟩ ?_
        (refine end_intro (by first | exact .inr rfl | exact .inl rfl) [] rfl ?_)
        exact sd
      · repeat first | refine lwp_seq fun K hK => ?_ | ((with_reducible refine gA ?_); apply_assumption -exfalso -symm) | refine gB ?_ | refine gC ?_ | refine gD ?_ | refine gE ?_ | refine gF rfl ?_ | refine gG rfl ?_ | refine gH ?_ | refine gI ?_ | refine gJ ?_ | refine gK ?_ | refine gL ?_ | refine lwp_region hC ⟨[], [], []⟩ (told0 _ _) rfl ⟨⟩ ?_ | refine lwp_region hC ⟨[], [], []⟩ (told0 _ _) rfl (by exact sd) ?_
        refine gA ⟨k + 1, ?_, ?_, sub_intro hm [(0, some 0)] rfl ?_⟩
        · refine ⟨hk2, fun i hi => ?_⟩
          by_cases e : i = k
          · subst e; simpa using hb
          · exact HF.out i (by omega)
        · omega
        · exact sd
    · exact sd
  · have hk3 : k = l.length := by omega
    subst hk3
    repeat first | refine lwp_seq fun K hK => ?_ | ((with_reducible refine gA ?_); apply_assumption -exfalso -symm) | refine gB ?_ | refine gC ?_ | refine gD ?_ | refine gE ?_ | refine gF rfl ?_ | refine gG rfl ?_ | refine gH ?_ | refine gI ?_ | refine gJ ?_ | refine gK ?_ | refine gL ?_ | refine lwp_region hC ⟨[], [], []⟩ (told0 _ _) rfl ⟨⟩ ?_ | refine lwp_region hC ⟨[], [], []⟩ (told0 _ _) rfl (by exact sd) ?_
    rw [idxF_none HF.out]
    (refine end_intro (by first | exact .inr rfl | exact .inl rfl) [] rfl ?_)
    exact sd
def CfF_i (l : List Nat) (σ : Ren) : Inst := { f := 214, hin := [(0, .ro l.length 1 (flC l))], args := [.sl 0 l.length, .fn 215 [] []], hout := [], ret := bl (l.any nzB), σ := σ }
set_option maxRecDepth 20000 in
theorem CfF_s (l : List Nat) (σ : Ren) (hl : l.length ≤ 100000) : (CfF_i l σ).ok Tryz.prog := by
  have hsg := idxF_sign l
  unfold CfF_i Inst.ok; dsimp only; refine spec_of_body (tys := tys) 1 Tryz.func214 (by kernel_rfl) rfl tys_ok rfl (Nat.le_of_ble_eq_true rfl) (fun _ _ h => (by cases h)) fun F hP hm hC hrd => ?_; conv => whnf
  repeat first | refine lwp_seq fun K hK => ?_ | ((with_reducible refine gA ?_); apply_assumption -exfalso -symm) | refine gB ?_ | refine gC ?_ | refine gD ?_ | refine gE ?_ | refine gF rfl ?_ | refine gG rfl ?_ | refine gH ?_ | refine gI ?_ | refine gJ ?_ | refine gK ?_ | refine gL ?_ | refine lwp_region hC ⟨[], [], []⟩ (told0 _ _) rfl ⟨⟩ ?_
  (refine lwp_region hC ⟨[], [], [(2, IxF_i l [(0, some 0)])]⟩ (told1 _ (by rw [hP]; exact (calls_cons (IxF_s _ _ hl) calls_nil))) rfl ?_ ?_; rotate_left 1)
  · repeat first | refine lwp_seq fun K hK => ?_ | ((with_reducible refine gA ?_); apply_assumption -exfalso -symm) | refine gB ?_ | refine gC ?_ | refine gD ?_ | refine gE ?_ | refine gF rfl ?_ | refine gG rfl ?_ | refine gH ?_ | refine gI ?_ | refine gJ ?_ | refine gK ?_ | refine gL ?_ | refine lwp_region hC ⟨[], [], []⟩ (told0 _ _) rfl ⟨⟩ ?_ | refine lwp_region hC ⟨[], [], []⟩ (told0 _ _) rfl (by exact sd) ?_
    rw [← hsg]
    clear hsg
    (refine end_intro (by first | exact .inr rfl | exact .inl rfl) [] rfl ?_)
    simp only [All, cd_p, cp_p, cv_p]
    (repeat' refine And.intro ?_ ?_) <;> first | trivial | rfl | omega | simp
  · exact sd

end Go.Proofs.YtoopgdchiljmiaaGreatDoor
