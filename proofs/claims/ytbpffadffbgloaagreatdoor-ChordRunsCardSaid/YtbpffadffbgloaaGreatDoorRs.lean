/- What the reference computes, in plain terms, and that it is what the program computes. No program in sight. -/
import Derived.Test.YtbpffadffbgloaaGreatDoorN
set_option linter.unusedVariables false
set_option linter.unusedSimpArgs false
namespace Go.Proofs.YtbpffadffbgloaaGreatDoor

def knownB (hs : List (Int × Int)) (i : Int) : Bool := !hs.any fun h => decide (h.1 ≤ i) && decide (i < h.2)
theorem knS_get (n : Nat) (hs : List (Int × Int)) (i : Nat) (h : i < n) : (knS n hs)[i]? = some (knownB hs i) := by simp [knS, knownB, h]
def valuesS (l : List Int) (hs : List (Int × Int)) : List (Int × Bool) := (List.range l.length).map fun (i : Nat) => (l.getD i 0, knownB hs i)
theorem valuesS_len (l : List Int) (hs : List (Int × Int)) : (valuesS l hs).length = l.length := by simp [valuesS]
theorem valuesS_get (l : List Int) (hs : List (Int × Int)) (i : Nat) (h : i < l.length) : (valuesS l hs).getD i (0, false) = (l.getD i 0, knownB hs i) := by simp [valuesS, h]
/-- The trace of values from a place on. -/
def madeS (f : Int) (l : List (Int × Bool)) : Tr × Int := if l.any badS then (⟨0, [], []⟩, 4) else (⟨f, (addAll l).1, (addAll l).2⟩, 0)
/-- One weight's part of a sum. -/
def wstep (vs : List (Int × Bool)) (ws : List Int) (q : Nat) (step : Int) (s : Int × Bool) (k : Nat) : Int × Bool :=
  if ws.getD k 0 = 0 then s else (s.1 + ws.getD k 0 * (vs.getD ((q : Int) + (k : Int) * step).toNat (0, false)).1, s.2 && (vs.getD ((q : Int) + (k : Int) * step).toNat (0, false)).2)
def wsum (vs : List (Int × Bool)) (ws : List Int) (step : Int) (q : Nat) : Int × Bool := (List.range ws.length).foldl (wstep vs ws q step) (0, true)
def summedL (vs : List (Int × Bool)) (ws : List Int) (before after step : Int) : List (Int × Bool) := (List.range ((vs.length : Int) - before - after).toNat).map (wsum vs ws step)
def summedS (f : Int) (vs : List (Int × Bool)) (ws : List Int) (before after step : Int) : Tr × Int :=
  if (summedL vs ws before after step).length = 0 then (⟨0, [], []⟩, 16) else madeS (f + before) (summedL vs ws before after step)

theorem summedL_len (vs : List (Int × Bool)) (ws : List Int) (before after step : Int) : (summedL vs ws before after step).length = ((vs.length : Int) - before - after).toNat := by simp [summedL]
theorem atS_values (f : Int) (l : List Int) (hs : List (Int × Int)) (p : Int) (h0 : 0 ≤ p - f) (h1 : p - f < l.length) : atS f l (knS l.length hs) p = (valuesS l hs).getD (p - f).toNat (0, false) := by
  have hq : (p - f).toNat < l.length := by omega
  unfold atS
  rw [if_neg (by omega), knS_get _ _ _ hq, valuesS_get _ _ _ hq]
  simp [List.getD_eq_getElem?_getD]
theorem foldedS_made (f : Int) (l : List Int) (kn : List Bool) (ts : List (Int × Int)) (least most : Int) :
    foldedS f l kn ts least most = if f + l.length - most ≤ f - least then (⟨0, [], []⟩, 16) else madeS (f - least) ((upto (f - least) (f + l.length - most - (f - least)).toNat).map (sumS f l kn ts)) := by
  unfold foldedS madeS runS addAll
  rw [List.any_map, List.foldl_map]
  rfl
theorem folded_summed (f : Int) (l : List Int) (hs : List (Int × Int)) (ts : List (Int × Int)) (ws : List Int) (before after step least : Int) (hl : least = -before)
    (h : ∀ i : Nat, (i : Int) < l.length - before - after → sumS f l (knS l.length hs) ts (f + before + i) = wsum (valuesS l hs) ws step i) :
    foldedS f l (knS l.length hs) ts least after = summedS f (valuesS l hs) ws before after step := by
  subst hl
  rw [foldedS_made]
  unfold summedS summedL
  rw [valuesS_len]
  have e1 : f + (l.length : Int) - after - (f - -before) = (l.length : Int) - before - after := by omega
  have e2 : f - -before = f + before := by omega
  rw [e1, e2]
  by_cases hc : f + (l.length : Int) - after ≤ f + before
  · rw [if_pos hc, if_pos (by simp; omega)]
  · rw [if_neg hc, if_neg (by simp; omega)]
    congr 1
    unfold upto
    rw [List.map_map]
    refine List.map_congr_left fun i hi => ?_
    have hi := List.mem_range.1 hi
    exact h i (by omega)
theorem foldl_mem_congr {α β : Type} (f g : β → α → β) : ∀ (l : List α) (b : β), (∀ b, ∀ a ∈ l, f b a = g b a) → l.foldl f b = l.foldl g b
  | [], b, h => rfl
  | a :: l, b, h => by
    simp only [List.foldl_cons]
    rw [h b a (by simp)]
    exact foldl_mem_congr f g l _ (fun b a' ha => h b a' (by simp [ha]))
/-- Terms at even distances. -/
theorem sum_step (f : Int) (l : List Int) (hs : List (Int × Int)) (before step : Int) (c : Nat → Int) (m : Nat) (ws : List Int) (hw : ws.length = m) (hc : ∀ k, k < m → ws.getD k 0 = c k ∧ c k ≠ 0) (i : Nat)
    (hr : ∀ k : Nat, k < m → 0 ≤ (i : Int) + (k : Int) * step ∧ (i : Int) + (k : Int) * step < l.length) :
    sumS f l (knS l.length hs) ((List.range m).map fun k => (c k, -before + (k : Int) * step)) (f + before + i) = wsum (valuesS l hs) ws step i := by
  unfold sumS wsum
  rw [List.foldl_map, hw]
  refine foldl_mem_congr _ _ _ _ fun s k hk => ?_
  have hk := List.mem_range.1 hk
  obtain ⟨h1, h2⟩ := hc k hk
  have h3 := hr k hk
  have e : f + before + (i : Int) + (-before + (k : Int) * step) - f = (i : Int) + (k : Int) * step := by omega
  dsimp only
  rw [atS_values _ _ _ _ (by rw [e]; exact h3.1) (by rw [e]; exact h3.2), e]
  unfold wstep
  rw [h1, if_neg h2]

/-- The weights of the versine. -/
def versW (b a : Int) : List Int := (List.range (b + a + 1).toNat).map fun (k : Nat) => if k = 0 then -a else if (k : Int) = b then b + a else if (k : Int) = b + a then -b else 0
theorem versW_len (b a : Int) : (versW b a).length = (b + a + 1).toNat := by simp [versW]
theorem versW_get (b a : Int) (k : Nat) (h : k < (b + a + 1).toNat) : (versW b a).getD k 0 = if k = 0 then -a else if (k : Int) = b then b + a else if (k : Int) = b + a then -b else 0 := by simp [versW, h]
theorem wsum_vers (vs : List (Int × Bool)) (b a : Int) (i : Nat) (hb : 1 ≤ b) (ha : 1 ≤ a) :
    wsum vs (versW b a) 1 i = ((b + a) * (vs.getD (i + b.toNat) (0, false)).1 + -a * (vs.getD i (0, false)).1 + -b * (vs.getD (i + (b + a).toNat) (0, false)).1, (vs.getD (i + b.toNat) (0, false)).2 && (vs.getD i (0, false)).2 && (vs.getD (i + (b + a).toNat) (0, false)).2) := by
  unfold wsum
  rw [versW_len]
  have key : ∀ n : Nat, n ≤ (b + a + 1).toNat → (List.range n).foldl (wstep vs (versW b a) i 1) (0, true) =
      ((if 0 < n then -a * (vs.getD i (0, false)).1 else 0) + (if b.toNat < n then (b + a) * (vs.getD (i + b.toNat) (0, false)).1 else 0) + (if (b + a).toNat < n then -b * (vs.getD (i + (b + a).toNat) (0, false)).1 else 0),
        (if 0 < n then (vs.getD i (0, false)).2 else true) && (if b.toNat < n then (vs.getD (i + b.toNat) (0, false)).2 else true) && (if (b + a).toNat < n then (vs.getD (i + (b + a).toNat) (0, false)).2 else true)) := by
    intro n
    induction n with
    | zero => intro _; simp
    | succ n ih =>
      intro hn
      rw [List.range_succ, List.foldl_append, ih (by omega)]
      simp only [List.foldl_cons, List.foldl_nil]
      unfold wstep
      rw [versW_get _ _ _ (by omega)]
      have e : ((i : Int) + (n : Int) * 1).toNat = i + n := by omega
      rw [e]
      by_cases h0 : n = 0
      · subst h0
        have q1 : ¬ b.toNat < 0 + 1 := by omega
        have q2 : ¬ (b + a).toNat < 0 + 1 := by omega
        have q3 : ¬ -a = 0 := by omega
        simp [q1, q2, q3]
      · by_cases h1 : (n : Int) = b
        · have e1 : b.toNat = n := by omega
          have q2 : ¬ (b + a).toNat < n + 1 := by omega
          have q3 : ¬ (b + a).toNat < n := by omega
          have q4 : ¬ b + a = 0 := by omega
          have q5 : 0 < n := by omega
          rw [if_neg h0, if_pos h1, if_neg q4, e1]
          simp [q2, q3, q5]
        · by_cases h2 : (n : Int) = b + a
          · have e1 : (b + a).toNat = n := by omega
            have q2 : b.toNat < n + 1 := by omega
            have q3 : b.toNat < n := by omega
            have q4 : ¬ -b = 0 := by omega
            have q5 : 0 < n := by omega
            rw [if_neg h0, if_neg h1, if_pos h2, if_neg q4, e1]
            simp [q2, q3, q5]
          · have q2 : b.toNat < n + 1 ↔ b.toNat < n := by omega
            have q3 : (b + a).toNat < n + 1 ↔ (b + a).toNat < n := by omega
            have q5 : 0 < n := by omega
            rw [if_neg h0, if_neg h1, if_neg h2, if_pos rfl]
            simp [q2, q3, q5]
  rw [key _ (Nat.le_refl _)]
  have q1 : 0 < (b + a + 1).toNat := by omega
  have q2 : b.toNat < (b + a + 1).toNat := by omega
  have q3 : (b + a).toNat < (b + a + 1).toNat := by omega
  simp only [if_pos q1, if_pos q2, if_pos q3]
  refine Prod.ext ?_ ?_
  · dsimp only; rw [Int.add_comm (-a * _) ((b + a) * _)]
  · dsimp only; rw [Bool.and_comm (vs.getD i (0, false)).2]

/-- The reference's versines. -/
def RVersinesS (b a : Int) (t : Tr) : Tr × Int := summedS t.first (valuesS t.vals t.holes) (versW b a) b a 1
theorem versines_same (b a : Int) (t : Tr) (hb : 1 ≤ b) (ha : 1 ≤ a) : foldedS t.first t.vals (knS t.vals.length t.holes) (termsS b a) (-b) a = RVersinesS b a t := by
  refine folded_summed _ _ _ _ _ b a 1 (-b) rfl fun i hi => ?_
  rw [wsum_vers _ _ _ _ hb ha]
  have e1 : t.first + b + (i : Int) + 0 - t.first = ((i + b.toNat : Nat) : Int) := by omega
  have e2 : t.first + b + (i : Int) + -b - t.first = (i : Int) := by omega
  have e3 : t.first + b + (i : Int) + a - t.first = ((i + (b + a).toNat : Nat) : Int) := by omega
  simp only [sumS, termsS, List.foldl_cons, List.foldl_nil]
  rw [atS_values _ _ _ _ (by omega) (by omega), atS_values _ _ _ _ (by omega) (by omega), atS_values _ _ _ _ (by omega) (by omega), e1, e2, e3]
  simp only [Int.toNat_natCast, Int.zero_add, Bool.true_and]

theorem weightsS_get (b a : Int) (k : Nat) (hk : k < (b + a - 1).toNat) : (weightsS b a).getD k 0 = weightS b a (1 - b + k) := by
  have hk' : k < (b + a).toNat - 1 := by omega
  simp [weightsS, upto, hk']
def RWeightedS (b a step : Int) (t : Tr) : Tr × Int := summedS t.first (valuesS t.vals t.holes) (weightsS b a) ((b - 1) * step) ((a - 1) * step) step
theorem weightS_ne (b a : Int) (hb : 1 ≤ b) (ha : 1 ≤ a) (k : Nat) (h : k < (b + a - 1).toNat) : weightS b a (1 - b + k) ≠ 0 := by
  unfold weightS
  split
  · have := Int.mul_pos (show (0 : Int) < a by omega) (show 0 < b + (1 - b + (k : Int)) by omega); omega
  · have := Int.mul_pos (show (0 : Int) < b by omega) (show 0 < a - (1 - b + (k : Int)) by omega); omega
theorem weighted_same (b a step : Int) (t : Tr) (hb : 1 ≤ b) (ha : 1 ≤ a) (hs : 1 ≤ step) : lengthenedS b a step t = RWeightedS b a step t := by
  unfold lengthenedS RWeightedS
  refine folded_summed _ _ _ _ _ ((b - 1) * step) ((a - 1) * step) step ((1 - b) * step) (by rw [← Int.neg_mul]; congr 1; omega) fun i hi => ?_
  have e : ltermsS b a step = (List.range (b + a - 1).toNat).map fun (k : Nat) => (weightS b a (1 - b + k), -((b - 1) * step) + (k : Int) * step) := by
    unfold ltermsS upto
    rw [List.map_map]
    refine List.map_congr_left fun k _ => ?_
    simp only [Function.comp]
    rw [show -((b - 1) * step) + (k : Int) * step = (1 - b + (k : Int)) * step by rw [Int.add_mul, ← Int.neg_mul]; congr 2; omega]
  rw [e]
  refine sum_step _ _ _ _ _ _ _ _ (weightsS_len b a) (fun k hk => ⟨weightsS_get b a k hk, weightS_ne b a hb ha k hk⟩) _ fun k hk => ?_
  have h1 : (k : Int) ≤ b + a - 2 := by omega
  have h2 : (k : Int) * step ≤ (b + a - 2) * step := Int.mul_le_mul_of_nonneg_right h1 (by omega)
  have h3 : (b + a - 2) * step = (b - 1) * step + (a - 1) * step := by rw [← Int.add_mul]; congr 1; omega
  have h4 : 0 ≤ (k : Int) * step := Int.mul_nonneg (by omega) (by omega)
  omega

end Go.Proofs.YtbpffadffbgloaaGreatDoor
