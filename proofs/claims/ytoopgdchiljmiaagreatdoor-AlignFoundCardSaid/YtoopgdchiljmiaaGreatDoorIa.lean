/- Chapter 5: shifts: quotients compared, the nearest best shift, by the program's order and by the reference's. No program in sight. -/
import Derived.Test.YtoopgdchiljmiaaGreatDoorSA
set_option linter.unusedVariables false
set_option linter.unusedSimpArgs false
namespace Go.Proofs.YtoopgdchiljmiaaGreatDoor
open Go.RowKit Go.Sym

/-- A sum of differences and a number of places. -/
abbrev SM := Int × Int
/-- Whether a quotient is less than another one, of positive denominators. -/
def rlt (d e : SM) : Prop := d.1 * e.2 < e.1 * d.2
instance (d e : SM) : Decidable (rlt d e) := inferInstanceAs (Decidable (_ < _))
theorem rle_trans {d e f : SM} (hd : 0 < d.2) (he : 0 < e.2) (hf : 0 < f.2) (h1 : ¬ rlt e d) (h2 : ¬ rlt f e) : ¬ rlt f d := by
  unfold rlt at *
  simp only [Int.not_lt] at *
  have a1 := Int.mul_le_mul_of_nonneg_right h1 (Int.le_of_lt hf)
  have a2 := Int.mul_le_mul_of_nonneg_right h2 (Int.le_of_lt hd)
  have e1 : d.1 * e.2 * f.2 = d.1 * f.2 * e.2 := by rw [Int.mul_assoc, Int.mul_comm e.2, ← Int.mul_assoc]
  have e2 : e.1 * d.2 * f.2 = e.1 * f.2 * d.2 := by rw [Int.mul_assoc, Int.mul_comm d.2, ← Int.mul_assoc]
  have e3 : f.1 * e.2 * d.2 = f.1 * d.2 * e.2 := by rw [Int.mul_assoc, Int.mul_comm e.2, ← Int.mul_assoc]
  have a3 : d.1 * f.2 * e.2 ≤ f.1 * d.2 * e.2 := by omega
  exact Int.le_of_mul_le_mul_right a3 he
theorem rlt_asymm {d e : SM} (h : rlt d e) : ¬ rlt e d := by unfold rlt at *; omega
theorem rlt_le {d e f : SM} (hd : 0 < d.2) (he : 0 < e.2) (hf : 0 < f.2) (h1 : rlt d e) (h2 : ¬ rlt f e) : rlt d f :=
  Classical.byContradiction fun h => (rle_trans he hf hd h2 h) h1
theorem rle_lt {d e f : SM} (hd : 0 < d.2) (he : 0 < e.2) (hf : 0 < f.2) (h1 : ¬ rlt e d) (h2 : rlt e f) : rlt d f :=
  Classical.byContradiction fun h => (rle_trans hf hd he h h1) h2
/-- Which shift is nearer to 0, and of two that are as near the lesser one. -/
def nearer (s t : Int) : Prop := max s (0 - s) < max t (0 - t) ∨ max s (0 - s) = max t (0 - t) ∧ s < t
def btS (D : Int → SM) (s t : Int) : Prop := rlt (D s) (D t) ∨ ¬ rlt (D t) (D s) ∧ nearer s t
theorem btS_asymm {D : Int → SM} {s t : Int} (h : btS D s t) (k : btS D t s) : False := by
  rcases h with h | ⟨h, h'⟩ <;> rcases k with k | ⟨k, k'⟩
  · exact rlt_asymm h k
  · exact k h
  · exact h k
  · unfold nearer at h' k'; omega
theorem btS_trans {D : Int → SM} {s t u : Int} (hs : 0 < (D s).2) (ht : 0 < (D t).2) (hu : 0 < (D u).2) (h : btS D s t) (k : btS D t u) : btS D s u := by
  rcases h with h | ⟨h, h'⟩ <;> rcases k with k | ⟨k, k'⟩
  · exact .inl (rlt_le hs ht hu h (rlt_asymm k))
  · exact .inl (rlt_le hs ht hu h k)
  · exact .inl (rle_lt hs ht hu h k)
  · refine .inr ⟨rle_trans hs ht hu h k, ?_⟩
    unfold nearer at *; omega
theorem btS_total {D : Int → SM} {s t : Int} (hn : s ≠ t) (h : ¬ btS D s t) : btS D t s := by
  unfold btS at *
  by_cases h1 : rlt (D t) (D s)
  · exact .inl h1
  · refine .inr ⟨fun h2 => h (.inl h2), ?_⟩
    refine Classical.byContradiction fun h2 => h (.inr ⟨h1, ?_⟩)
    unfold nearer at *; omega
/-- The best one of the shifts of a set that have places enough. -/
def IsB (D : Int → SM) (least : Int) (S : Int → Prop) (b : Int) : Prop := least ≤ (D b).2 ∧ S b ∧ ∀ t, S t → least ≤ (D t).2 → t = b ∨ btS D b t
def NoB (D : Int → SM) (least : Int) (S : Int → Prop) : Prop := ∀ t, S t → ¬ least ≤ (D t).2
theorem isB_unique {D : Int → SM} {least : Int} {S : Int → Prop} {b c : Int} (h : IsB D least S b) (k : IsB D least S c) : b = c := by
  rcases h.2.2 c k.2.1 k.1 with e | e
  · exact e.symm
  · rcases k.2.2 b h.2.1 h.1 with e2 | e2
    · exact e2
    · exact (btS_asymm e e2).elim
theorem isB_no {D : Int → SM} {least : Int} {S : Int → Prop} {b : Int} (h : IsB D least S b) (k : NoB D least S) : False := k b h.2.1 h.1
theorem isB_congr {D : Int → SM} {least : Int} {S S' : Int → Prop} {b : Int} (h : IsB D least S b) (k : ∀ t, S t ↔ S' t) : IsB D least S' b :=
  ⟨h.1, (k b).1 h.2.1, fun t ht hl => h.2.2 t ((k t).2 ht) hl⟩
theorem noB_congr {D : Int → SM} {least : Int} {S S' : Int → Prop} (h : NoB D least S) (k : ∀ t, S t ↔ S' t) : NoB D least S' := fun t ht => h t ((k t).2 ht)
def addS (S : Int → Prop) (x : Int) : Int → Prop := fun t => S t ∨ t = x
theorem noB_add {D : Int → SM} {least : Int} {S : Int → Prop} {x : Int} (h : NoB D least S) (hx : ¬ least ≤ (D x).2) : NoB D least (addS S x) := by
  rintro t (ht | rfl)
  · exact h t ht
  · exact hx
theorem isB_skip {D : Int → SM} {least : Int} {S : Int → Prop} {x b : Int} (h : IsB D least S b) (hx : ¬ least ≤ (D x).2) : IsB D least (addS S x) b := by
  refine ⟨h.1, .inl h.2.1, ?_⟩
  rintro t (ht | rfl) hl
  · exact h.2.2 t ht hl
  · exact absurd hl hx
theorem isB_first {D : Int → SM} {least : Int} {S : Int → Prop} {x : Int} (h : NoB D least S) (hx : least ≤ (D x).2) : IsB D least (addS S x) x := by
  refine ⟨hx, .inr rfl, ?_⟩
  rintro t (ht | rfl) hl
  · exact absurd hl (h t ht)
  · exact .inl rfl
theorem isB_take {D : Int → SM} {least : Int} {S : Int → Prop} {x b : Int} (hl : 1 ≤ least) (h : IsB D least S b) (hx : least ≤ (D x).2) (hb : btS D x b) : IsB D least (addS S x) x := by
  refine ⟨hx, .inr rfl, ?_⟩
  rintro t (ht | rfl) hlt
  · rcases h.2.2 t ht hlt with rfl | e
    · exact .inr hb
    · have h1 := h.1
      exact .inr (btS_trans (by omega) (by omega) (by omega) hb e)
  · exact .inl rfl
theorem isB_keep {D : Int → SM} {least : Int} {S : Int → Prop} {x b : Int} (h : IsB D least S b) (hb : ¬ btS D x b) : IsB D least (addS S x) b := by
  refine ⟨h.1, .inl h.2.1, ?_⟩
  rintro t (ht | rfl) hlt
  · exact h.2.2 t ht hlt
  · by_cases e : t = b
    · exact .inl e
    · exact .inr (btS_total e hb)

/-- The program's order of the shifts. -/
def shf (i : Nat) : Int := if i % 2 = 1 then -(((i : Int) + 1) / 2) else ((i : Int) + 1) / 2
def mtS (D : Int → SM) (least : Int) : Nat → Int × SM
  | 0 => (0, 0, 0)
  | i + 1 => if least ≤ (D (shf i)).2 ∧ ((mtS D least i).2.2 = 0 ∨ rlt (D (shf i)) (mtS D least i).2) then (shf i, D (shf i)) else mtS D least i
theorem shf_nearer {i j : Nat} (h : j < i) : nearer (shf j) (shf i) := by
  unfold nearer shf
  split <;> split <;> omega
theorem shf_mem {n : Nat} (t : Int) : (∃ j, j < 2 * n + 1 ∧ t = shf j) ↔ -(n : Int) ≤ t ∧ t ≤ n := by
  constructor
  · rintro ⟨j, hj, rfl⟩
    unfold shf
    split <;> omega
  · rintro ⟨h1, h2⟩
    by_cases h : t < 0
    · refine ⟨(-(2 * t) - 1).toNat, by omega, ?_⟩
      unfold shf
      rw [if_pos (by omega)]; omega
    · refine ⟨(2 * t).toNat, by omega, ?_⟩
      unfold shf
      rw [if_neg (by omega)]; omega
theorem mtS_ok (D : Int → SM) {least : Int} (hl : 1 ≤ least) : ∀ i : Nat, (mtS D least i = (0, 0, 0) ∧ NoB D least fun t => ∃ j, j < i ∧ t = shf j) ∨ ((mtS D least i).2 = D (mtS D least i).1 ∧ IsB D least (fun t => ∃ j, j < i ∧ t = shf j) (mtS D least i).1)
  | 0 => .inl ⟨rfl, fun t ⟨j, hj, _⟩ => absurd hj (Nat.not_lt_zero j)⟩
  | i + 1 => by
    have hS : ∀ t, addS (fun t => ∃ j, j < i ∧ t = shf j) (shf i) t ↔ ∃ j, j < i + 1 ∧ t = shf j := by
      intro t
      constructor
      · rintro (⟨j, hj, e⟩ | e)
        · exact ⟨j, by omega, e⟩
        · exact ⟨i, by omega, e⟩
      · rintro ⟨j, hj, e⟩
        by_cases h : j = i
        · subst h; exact .inr e
        · exact .inl ⟨j, by omega, e⟩
    have ih := mtS_ok D hl i
    have hstep : mtS D least (i + 1) = if least ≤ (D (shf i)).2 ∧ ((mtS D least i).2.2 = 0 ∨ rlt (D (shf i)) (mtS D least i).2) then (shf i, D (shf i)) else mtS D least i := rfl
    generalize mtS D least i = st at ih hstep
    by_cases hx : least ≤ (D (shf i)).2
    · rcases ih with ⟨rfl, hn⟩ | ⟨he, hb⟩
      · rw [if_pos ⟨hx, .inl rfl⟩] at hstep
        rw [hstep]
        exact .inr ⟨rfl, isB_congr (isB_first hn hx) hS⟩
      · by_cases hr : rlt (D (shf i)) st.2
        · rw [if_pos ⟨hx, .inr hr⟩] at hstep
          rw [hstep]
          rw [he] at hr
          exact .inr ⟨rfl, isB_congr (isB_take hl hb hx (.inl hr)) hS⟩
        · have h1 := hb.1
          rw [if_neg] at hstep
          · rw [hstep]
            refine .inr ⟨he, isB_congr (isB_keep hb ?_) hS⟩
            rw [he] at hr
            rintro (h2 | ⟨_, h2⟩)
            · exact hr h2
            · obtain ⟨j, hj, e⟩ := hb.2.1
              have := shf_nearer hj
              rw [← e] at this
              unfold nearer at *; omega
          · rintro ⟨_, h2 | h2⟩
            · rw [he] at h2; omega
            · exact hr h2
    · rw [if_neg (fun h => hx h.1)] at hstep
      rw [hstep]
      rcases ih with ⟨rfl, hn⟩ | ⟨he, hb⟩
      · exact .inl ⟨rfl, noB_congr (noB_add hn hx) hS⟩
      · exact .inr ⟨he, isB_congr (isB_skip hb hx) hS⟩

/-- A quotient in lowest terms. -/
def lowS (d : SM) : SM := (((d.1.toNat / Nat.gcd d.1.toNat d.2.toNat : Nat) : Int), ((d.2.toNat / Nat.gcd d.1.toNat d.2.toNat : Nat) : Int))
theorem lowS_mul {d : SM} (h1 : 0 ≤ d.1) (h2 : 0 < d.2) : ∃ g : Int, 0 < g ∧ d.1 = g * (lowS d).1 ∧ d.2 = g * (lowS d).2 := by
  have hg : 0 < Nat.gcd d.1.toNat d.2.toNat := Nat.gcd_pos_of_pos_right _ (by omega)
  refine ⟨(Nat.gcd d.1.toNat d.2.toNat : Nat), by omega, ?_, ?_⟩
  · unfold lowS
    simp only
    rw [← Int.natCast_mul, Nat.mul_div_cancel' (Nat.gcd_dvd_left _ _)]; omega
  · unfold lowS
    simp only
    rw [← Int.natCast_mul, Nat.mul_div_cancel' (Nat.gcd_dvd_right _ _)]; omega
theorem lowS_lt {d e : SM} (h1 : 0 ≤ d.1) (h2 : 0 < d.2) (h3 : 0 ≤ e.1) (h4 : 0 < e.2) : rlt (lowS d) (lowS e) ↔ rlt d e := by
  obtain ⟨g, hg, a1, a2⟩ := lowS_mul h1 h2
  obtain ⟨k, hk, b1, b2⟩ := lowS_mul h3 h4
  generalize lowS d = x at *
  generalize lowS e = y at *
  unfold rlt
  rw [a1, a2, b1, b2]
  have e1 : g * x.1 * (k * y.2) = (g * k) * (x.1 * y.2) := by rw [Int.mul_assoc, Int.mul_left_comm x.1, ← Int.mul_assoc, ← Int.mul_assoc]
  have e2 : k * y.1 * (g * x.2) = (g * k) * (y.1 * x.2) := by rw [Int.mul_assoc, Int.mul_left_comm y.1, ← Int.mul_assoc, ← Int.mul_assoc, Int.mul_comm k g, Int.mul_assoc]
  rw [e1, e2]
  have hp := Int.mul_pos hg hk
  constructor
  · exact fun h => Int.mul_lt_mul_of_pos_left h hp
  · exact fun h => Int.lt_of_mul_lt_mul_left h (Int.le_of_lt hp)
/-- The comparison of two ratios. -/
def cmpS (x y : SM) : Int := if rlt x y then -1 else if rlt y x then 1 else 0
structure RM where
  found : Bool
  best : Int
  x : SM
def rmB (D : Int → SM) (st : RM) (s : Int) : Bool := !st.found || decide (cmpS (lowS (D s)) st.x < 0) || decide (cmpS (lowS (D s)) st.x = 0) && (decide (max s (0 - s) < max st.best (0 - st.best)) || decide (max s (0 - s) = max st.best (0 - st.best)) && decide (s < st.best))
def rmS (D : Int → SM) (least most : Int) : Nat → RM
  | 0 => ⟨false, 0, (0, 0)⟩
  | k + 1 => if (D (0 - most + k)).2 < least then rmS D least most k else if rmB D (rmS D least most k) (0 - most + k) = true then ⟨true, 0 - most + k, lowS (D (0 - most + k))⟩ else rmS D least most k
theorem rmB_eq {D : Int → SM} {st : RM} {s : Int} (hf : st.found = true) (hx : st.x = lowS (D st.best)) (h1 : 0 ≤ (D s).1) (h2 : 0 < (D s).2) (h3 : 0 ≤ (D st.best).1) (h4 : 0 < (D st.best).2) : rmB D st s = true ↔ btS D s st.best := by
  unfold rmB cmpS btS
  rw [hf, hx]
  have e1 := lowS_lt h1 h2 h3 h4
  have e2 := lowS_lt h3 h4 h1 h2
  by_cases c1 : rlt (D s) (D st.best)
  · simp [c1, e1.2 c1]
  · by_cases c2 : rlt (D st.best) (D s)
    · simp [c1, e1, c2, e2]
    · simp [c1, e1, c2, e2, nearer]
theorem rmS_ok (D : Int → SM) {least : Int} (hl : 1 ≤ least) (hD : ∀ t, 0 ≤ (D t).1) (most : Int) : ∀ k : Nat, (rmS D least most k = ⟨false, 0, (0, 0)⟩ ∧ NoB D least fun t => 0 - most ≤ t ∧ t < 0 - most + k) ∨ ((rmS D least most k).found = true ∧ (rmS D least most k).x = lowS (D (rmS D least most k).best) ∧ IsB D least (fun t => 0 - most ≤ t ∧ t < 0 - most + k) (rmS D least most k).best)
  | 0 => .inl ⟨rfl, fun t ⟨h1, h2⟩ => absurd h2 (by omega)⟩
  | k + 1 => by
    have hS : ∀ t, addS (fun t => 0 - most ≤ t ∧ t < 0 - most + k) (0 - most + k) t ↔ 0 - most ≤ t ∧ t < 0 - most + (k + 1 : Nat) := by
      intro t
      unfold addS
      omega
    have ih := rmS_ok D hl hD most k
    have hstep : rmS D least most (k + 1) = if (D (0 - most + k)).2 < least then rmS D least most k else if rmB D (rmS D least most k) (0 - most + k) = true then ⟨true, 0 - most + k, lowS (D (0 - most + k))⟩ else rmS D least most k := rfl
    generalize rmS D least most k = st at ih hstep
    by_cases hx : least ≤ (D (0 - most + k)).2
    · rw [if_neg (by omega)] at hstep
      rcases ih with ⟨rfl, hn⟩ | ⟨hf, he, hb⟩
      · rw [if_pos (show rmB D ⟨false, 0, (0, 0)⟩ (0 - most + k) = true from rfl)] at hstep
        rw [hstep]
        exact .inr ⟨rfl, rfl, isB_congr (isB_first hn hx) hS⟩
      · have h1 := hb.1
        have hq := rmB_eq (s := 0 - most + k) hf he (hD _) (by omega) (hD _) (by omega)
        by_cases hr : rmB D st (0 - most + k) = true
        · rw [if_pos hr] at hstep
          rw [hstep]
          exact .inr ⟨rfl, rfl, isB_congr (isB_take hl hb hx (hq.1 hr)) hS⟩
        · rw [if_neg hr] at hstep
          rw [hstep]
          exact .inr ⟨hf, he, isB_congr (isB_keep hb (fun h => hr (hq.2 h))) hS⟩
    · rw [if_pos (by omega)] at hstep
      rw [hstep]
      rcases ih with ⟨rfl, hn⟩ | ⟨hf, he, hb⟩
      · exact .inl ⟨rfl, noB_congr (noB_add hn hx) hS⟩
      · exact .inr ⟨hf, he, isB_congr (isB_skip hb hx) hS⟩
/-- Both orders of the shifts give the same one. -/
theorem both_match (D : Int → SM) {least : Int} (hl : 1 ≤ least) (hD : ∀ t, 0 ≤ (D t).1) (n : Nat) :
    (mtS D least (2 * n + 1) = (0, 0, 0) ∧ rmS D least n (2 * n + 1) = ⟨false, 0, (0, 0)⟩) ∨
    (∃ b, IsB D least (fun t => -(n : Int) ≤ t ∧ t ≤ n) b ∧ mtS D least (2 * n + 1) = (b, D b) ∧ rmS D least n (2 * n + 1) = ⟨true, b, lowS (D b)⟩) := by
  have h1 := mtS_ok D hl (2 * n + 1)
  have h2 := rmS_ok D hl hD n (2 * n + 1)
  have k2 : ∀ t : Int, (0 - (n : Int) ≤ t ∧ t < 0 - n + (2 * n + 1 : Nat)) ↔ (-(n : Int) ≤ t ∧ t ≤ n) := fun t => by omega
  rcases h1 with ⟨a1, a2⟩ | ⟨a1, a2⟩
  · have a3 := noB_congr a2 (fun t => shf_mem (n := n) t)
    rcases h2 with ⟨b1, _⟩ | ⟨_, _, b3⟩
    · exact .inl ⟨a1, b1⟩
    · exact (isB_no (isB_congr b3 k2) a3).elim
  · have a3 := isB_congr a2 (fun t => shf_mem (n := n) t)
    rcases h2 with ⟨_, b2⟩ | ⟨b1, b2, b3⟩
    · exact (isB_no a3 (noB_congr b2 k2)).elim
    · have b4 := isB_congr b3 k2
      have e := isB_unique a3 b4
      refine .inr ⟨_, a3, Prod.ext rfl a1, ?_⟩
      generalize rmS D least n (2 * n + 1) = st at *
      obtain ⟨x, y, z⟩ := st
      simp only at *
      rw [b1, b2, e]

end Go.Proofs.YtoopgdchiljmiaaGreatDoor
