/- Smoothed values and bands: what the reference computes is what the program computes. No program in sight. -/
import Derived.Test.YtbpffadffbgloaaDoorRs
set_option linter.unusedVariables false
set_option linter.unusedSimpArgs false
namespace Go.Proofs.YtbpffadffbgloaaDoor

def onesW (n : Nat) (w : Int) : List Int := List.replicate n w
def RSmoothedS (t : Tr) (half : Int) : Tr × Int := summedS t.first (valuesS t.vals t.holes) (onesW (2 * half + 1).toNat 1) half half 1
theorem smoothed_same (t : Tr) (half : Int) (h0 : 0 ≤ half) : foldTr t (windowS half 1) (-half) half = RSmoothedS t half := by
  unfold foldTr RSmoothedS
  refine folded_summed _ _ _ _ _ half half 1 (-half) rfl fun i hi => ?_
  have e : windowS half 1 = (List.range (2 * half + 1).toNat).map fun (k : Nat) => ((1 : Int), -half + (k : Int) * 1) := by
    unfold windowS upto
    rw [List.map_map]
    refine List.map_congr_left fun k _ => ?_
    simp
  rw [e]
  refine sum_step _ _ _ _ _ (fun _ => 1) _ _ (by simp [onesW]) (fun k hk => ⟨by simp [onesW, hk], by decide⟩) _ fun k hk => by omega

def Sg : Nat → (Nat → Int) → Int
  | 0, _ => 0
  | m + 1, g => Sg m g + g m
def Al : Nat → (Nat → Bool) → Bool
  | 0, _ => true
  | m + 1, g => Al m g && g m
theorem fold_sum (c : Nat → Int) (v : Nat → Int × Bool) (s : Int × Bool) : ∀ m, (List.range m).foldl (fun s k => (s.1 + c k * (v k).1, s.2 && (v k).2)) s = (s.1 + Sg m (fun k => c k * (v k).1), s.2 && Al m (fun k => (v k).2))
  | 0 => by simp [Sg, Al]
  | m + 1 => by
    rw [List.range_succ, List.foldl_append, fold_sum c v s m]
    simp [Sg, Al, Int.add_assoc, Bool.and_assoc]
theorem Sg_congr {g h : Nat → Int} : ∀ m, (∀ k, k < m → g k = h k) → Sg m g = Sg m h
  | 0, _ => rfl
  | m + 1, e => by simp only [Sg]; rw [Sg_congr m (fun k hk => e k (by omega)), e m (by omega)]
theorem Sg_add (g h : Nat → Int) : ∀ m, Sg m (fun k => g k + h k) = Sg m g + Sg m h
  | 0 => rfl
  | m + 1 => by simp only [Sg]; rw [Sg_add g h m]; omega
theorem Sg_win (g : Nat → Int) (lo n : Nat) : ∀ m, Sg m (fun k => if lo ≤ k ∧ k < lo + n then g k else 0) = Sg (min (m - lo) n) (fun j => g (lo + j))
  | 0 => by simp [Sg]
  | m + 1 => by
    simp only [Sg]
    rw [Sg_win g lo n m]
    by_cases h : lo ≤ m ∧ m < lo + n
    · rw [if_pos h]
      have e1 : min (m + 1 - lo) n = (m - lo) + 1 := by omega
      have e2 : min (m - lo) n = m - lo := by omega
      rw [e1, e2]
      simp only [Sg]
      rw [show lo + (m - lo) = m by omega]
    · rw [if_neg h]
      have e1 : min (m + 1 - lo) n = min (m - lo) n := by omega
      rw [e1]; omega
theorem Al_at (g : Nat → Bool) : ∀ m k, k < m → Al m g = true → g k = true
  | 0, k, h, _ => by omega
  | m + 1, k, h, e => by
    simp only [Al, Bool.and_eq_true] at e
    by_cases hk : k = m
    · subst hk; exact e.2
    · exact Al_at g m k (by omega) e.1
theorem Al_of (g : Nat → Bool) : ∀ m, (∀ k, k < m → g k = true) → Al m g = true
  | 0, _ => rfl
  | m + 1, h => by simp only [Al, Bool.and_eq_true]; exact ⟨Al_of g m fun k hk => h k (by omega), h m (by omega)⟩
theorem Al_win (g : Nat → Bool) (lo n m : Nat) (h : lo + n ≤ m) : (Al m g && Al n (fun j => g (lo + j))) = Al m g := by
  cases e : Al m g with
  | false => rfl
  | true => rw [Al_of _ n fun k hk => Al_at g m (lo + k) (by omega) e]; rfl

/-- A window's part of a sum. -/
theorem win_fold (f : Int) (l : List Int) (hs : List (Int × Int)) (half c p : Int) (s : Int × Bool) (h0 : 0 ≤ half) (h1 : 0 ≤ p - f - half) (h2 : p - f + half < l.length) :
    (windowS half c).foldl (fun s x => (s.1 + x.1 * (atS f l (knS l.length hs) (p + x.2)).1, s.2 && (atS f l (knS l.length hs) (p + x.2)).2)) s =
      (s.1 + Sg (2 * half + 1).toNat (fun k => c * ((valuesS l hs).getD ((p - f - half).toNat + k) (0, false)).1), s.2 && Al (2 * half + 1).toNat (fun k => ((valuesS l hs).getD ((p - f - half).toNat + k) (0, false)).2)) := by
  rw [← fold_sum (fun _ => c) (fun k => (valuesS l hs).getD ((p - f - half).toNat + k) (0, false))]
  unfold windowS upto
  rw [List.map_map, List.foldl_map]
  refine foldl_mem_congr _ _ _ _ fun s k hk => ?_
  have hk := List.mem_range.1 hk
  simp only [Function.comp]
  have e : p + (-half + (k : Int)) - f = (((p - f - half).toNat + k : Nat) : Int) := by omega
  rw [atS_values _ _ _ _ (by omega) (by omega), e, Int.toNat_natCast]

def bandW (short long : Int) : List Int := (List.range (2 * long + 1).toNat).map fun (k : Nat) => if long - short ≤ (k : Int) ∧ (k : Int) ≤ long + short then -(2 * short + 1) + 2 * long + 1 else -(2 * short + 1)
theorem bandW_len (short long : Int) : (bandW short long).length = (2 * long + 1).toNat := by simp [bandW]
def bstep (vs : List (Int × Bool)) (ws : List Int) (q : Nat) (s : Int × Bool) (k : Nat) : Int × Bool := (s.1 + ws.getD k 0 * (vs.getD (q + k) (0, false)).1, s.2 && (vs.getD (q + k) (0, false)).2)
def bsum (vs : List (Int × Bool)) (ws : List Int) (q : Nat) : Int × Bool := (List.range ws.length).foldl (bstep vs ws q) (0, true)
def bandL (vs : List (Int × Bool)) (ws : List Int) (long : Int) : List (Int × Bool) := (List.range ((vs.length : Int) - long - long).toNat).map (bsum vs ws)
def RBandS (t : Tr) (short long : Int) : Tr × Int :=
  if (bandL (valuesS t.vals t.holes) (bandW short long) long).length = 0 then (⟨0, [], []⟩, 16) else madeS (t.first + long) (bandL (valuesS t.vals t.holes) (bandW short long) long)
theorem band_same (t : Tr) (short long : Int) (h0 : 0 ≤ short) (h1 : short < long) : foldTr t (windowS long (-(2 * short + 1)) ++ windowS short (2 * long + 1)) (-long) long = RBandS t short long := by
  unfold foldTr RBandS
  rw [foldedS_made]
  unfold bandL
  have e1 : t.first + (t.vals.length : Int) - long - (t.first - -long) = (t.vals.length : Int) - long - long := by omega
  have e2 : t.first - -long = t.first + long := by omega
  rw [e1, e2, valuesS_len]
  by_cases hc : t.first + (t.vals.length : Int) - long ≤ t.first + long
  · rw [if_pos hc, if_pos (by simp; omega)]
  · rw [if_neg hc, if_neg (by simp; omega)]
    congr 1
    rw [show upto (t.first + long) ((t.vals.length : Int) - long - long).toNat = (List.range ((t.vals.length : Int) - long - long).toNat).map fun i => t.first + long + (i : Nat) from rfl, List.map_map]
    refine List.map_congr_left fun i hi => ?_
    have hi := List.mem_range.1 hi
    simp only [Function.comp]
    unfold sumS
    rw [List.foldl_append, win_fold _ _ _ _ _ _ _ (by omega) (by omega) (by omega), win_fold _ _ _ _ _ _ _ (by omega) (by omega) (by omega)]
    unfold bsum
    rw [bandW_len]
    have e3 : (t.first + long + (i : Int) - t.first - long).toNat = i := by omega
    have e4 : (t.first + long + (i : Int) - t.first - short).toNat = i + (long - short).toNat := by omega
    rw [e3, e4]
    have hfold := fold_sum (fun k => (bandW short long).getD k 0) (fun k => (valuesS t.vals t.holes).getD (i + k) (0, false)) (0, true) (2 * long + 1).toNat
    have hb : (List.range (2 * long + 1).toNat).foldl (bstep (valuesS t.vals t.holes) (bandW short long) i) (0, true) = _ := hfold
    rw [hb]
    refine Prod.ext ?_ ?_
    · dsimp only
      have hw : Sg (2 * long + 1).toNat (fun k => (bandW short long).getD k 0 * ((valuesS t.vals t.holes).getD (i + k) (0, false)).1) =
          Sg (2 * long + 1).toNat (fun k => -(2 * short + 1) * ((valuesS t.vals t.holes).getD (i + k) (0, false)).1 + (if (long - short).toNat ≤ k ∧ k < (long - short).toNat + (2 * short + 1).toNat then (2 * long + 1) * ((valuesS t.vals t.holes).getD (i + k) (0, false)).1 else 0)) := by
        refine Sg_congr _ fun k hk => ?_
        generalize ((valuesS t.vals t.holes).getD (i + k) (0, false)).1 = v
        have : (bandW short long).getD k 0 = if long - short ≤ (k : Int) ∧ (k : Int) ≤ long + short then -(2 * short + 1) + 2 * long + 1 else -(2 * short + 1) := by simp [bandW, hk]
        rw [this]
        by_cases hk2 : long - short ≤ (k : Int) ∧ (k : Int) ≤ long + short
        · rw [if_pos hk2, if_pos (by omega), ← Int.add_mul]; congr 1; omega
        · rw [if_neg hk2, if_neg (by omega), Int.add_zero]
      rw [hw, Sg_add, Sg_win (fun k => (2 * long + 1) * ((valuesS t.vals t.holes).getD (i + k) (0, false)).1)]
      have e5 : min ((2 * long + 1).toNat - (long - short).toNat) (2 * short + 1).toNat = (2 * short + 1).toNat := by omega
      rw [e5]
      simp only [Int.zero_add, Nat.add_assoc]
    · dsimp only
      have := Al_win (fun k => ((valuesS t.vals t.holes).getD (i + k) (0, false)).2) (long - short).toNat (2 * short + 1).toNat (2 * long + 1).toNat (by omega)
      simp only [Bool.true_and, Nat.add_assoc]
      simpa only [Nat.add_assoc] using this

end Go.Proofs.YtbpffadffbgloaaDoor
