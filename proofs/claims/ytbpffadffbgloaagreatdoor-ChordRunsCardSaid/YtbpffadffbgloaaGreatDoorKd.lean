/- What weights, lengthened readings, windows and bands are. -/
import Derived.Test.YtbpffadffbgloaaGreatDoorJ
set_option linter.unusedVariables false
set_option linter.unusedSimpArgs false
namespace Go.Proofs.YtbpffadffbgloaaGreatDoor
open Go.RowKit Go.Shelf

def weightS (b a k : Int) : Int := if k ≤ 0 then a * (b + k) else b * (a - k)
def weightsS (b a : Int) : List Int := (upto (1 - b) (b + a - 1).toNat).map (weightS b a)
theorem weightsS_len (b a : Int) : (weightsS b a).length = (b + a - 1).toNat := by simp [weightsS, upto_len]
theorem small_mul {x y : Int} (h1 : 0 ≤ x) (h2 : x ≤ 32) (h3 : 0 ≤ y) (h4 : y ≤ 64) : 0 ≤ x * y ∧ x * y ≤ 2048 := by
  refine ⟨Int.mul_nonneg h1 h3, ?_⟩
  have := Int.mul_le_mul h2 h4 h3 (by omega)
  omega
theorem own_mono {w : World} {base base' n sz : Nat} {e : TypeId} {v : Value} {xs : List Value} (h : w.ownsRow base e sz v n xs) (hb : base' ≤ base) : w.ownsRow base' e sz v n xs := by
  obtain ⟨h1, h2⟩ := h
  refine ⟨h1, ?_⟩
  rcases h2 with h2 | ⟨g, cap, cur, hv, hg, r⟩
  · exact .inl h2
  · exact .inr ⟨g, cap, cur, hv, by omega, r⟩
theorem infoTerm : (Tryz.prog.info? 183).map (fun i => (i.zero, i.size, i.bytes)) = some (some (.agg #[.int .i64 0, .int .i64 0]), 2, 16) := by kernel_rfl
def ltermsS (b a step : Int) : List (Int × Int) := (upto (1 - b) (b + a - 1).toNat).map fun k => (weightS b a k, k * step)
theorem weightsS_at (b a : Int) (j : Nat) (h : j < (weightsS b a).length) : (weightsS b a)[j] = weightS b a (1 - b + j) := by
  simp [weightsS, upto]
theorem weightS_bound {b a k : Int} (b0 : 1 ≤ b) (b1 : b ≤ 32) (a0 : 1 ≤ a) (a1 : a ≤ 32) (h0 : 1 - b ≤ k) (h1 : k < a) : 0 ≤ weightS b a k ∧ weightS b a k ≤ 2048 := by
  unfold weightS
  split
  · exact small_mul (by omega) (by omega) (by omega) (by omega)
  · exact small_mul (by omega) (by omega) (by omega) (by omega)
theorem step_mul {k s : Int} (h1 : -32 ≤ k) (h2 : k ≤ 32) (s0 : 1 ≤ s) (s1 : s ≤ 32) : -2048 ≤ k * s ∧ k * s ≤ 2048 := by
  rcases Int.le_total 0 k with h | h
  · have := small_mul (x := k) (y := s) h h2 (by omega) (by omega); omega
  · have := small_mul (x := -k) (y := s) (by omega) (by omega) (by omega) (by omega)
    rw [Int.neg_mul] at this; omega
theorem lterms_ok {b a s : Int} (b0 : 1 ≤ b) (b1 : b ≤ 32) (a0 : 1 ≤ a) (a1 : a ≤ 32) (s0 : 1 ≤ s) (s1 : s ≤ 32) : (ltermsS b a s).length ≤ 4096 ∧ ∀ x ∈ ltermsS b a s, (-100000 ≤ x.1 ∧ x.1 ≤ 100000) ∧ (-100000 ≤ x.2 ∧ x.2 ≤ 100000) := by
  refine ⟨by simp [ltermsS, upto_len]; omega, fun x hx => ?_⟩
  unfold ltermsS upto at hx
  simp only [List.mem_map, List.mem_range] at hx
  obtain ⟨k, ⟨j, hj, rfl⟩, rfl⟩ := hx
  have h1 := weightS_bound (k := 1 - b + (j : Int)) b0 b1 a0 a1 (by omega) (by omega)
  have h2 := step_mul (k := 1 - b + (j : Int)) (s := s) (by omega) (by omega) s0 s1
  simp only
  omega
def lengthenedS (b a step : Int) (t : Tr) : Tr × Int := foldedS t.first t.vals (knS t.vals.length t.holes) (ltermsS b a step) ((1 - b) * step) ((a - 1) * step)
def WeightedS (b a : Int) (t : Tr) : Tr × Int :=
  if firstS [chordS b a, traceS t] ≠ 0 then (⟨0, [], []⟩, firstS [chordS b a, traceS t]) else lengthenedS b a 1 t
def LengthenedS (b a step : Int) (t : Tr) : Tr × Int :=
  if firstS [chordS b a, withinS step 1 32, traceS t] ≠ 0 then (⟨0, [], []⟩, firstS [chordS b a, withinS step 1 32, traceS t]) else lengthenedS b a step t
def windowS (half factor : Int) : List (Int × Int) := (upto (-half) (2 * half + 1).toNat).map fun d => (factor, d)
theorem windowS_len (half factor : Int) : (windowS half factor).length = (2 * half + 1).toNat := by simp [windowS, upto_len]
theorem windowS_ok {half factor : Int} (h0 : 0 ≤ half) (h1 : half ≤ 1024) (f0 : -100000 ≤ factor) (f1 : factor ≤ 100000) : ∀ x ∈ windowS half factor, (-100000 ≤ x.1 ∧ x.1 ≤ 100000) ∧ (-100000 ≤ x.2 ∧ x.2 ≤ 100000) := by
  intro x hx
  unfold windowS upto at hx
  simp only [List.mem_map, List.mem_range] at hx
  obtain ⟨k, ⟨j, hj, rfl⟩, rfl⟩ := hx
  simp only
  omega
/-- The fold of a trace by terms: what reads and folds. -/
def foldTr (t : Tr) (ts : List (Int × Int)) (least most : Int) : Tr × Int := foldedS t.first t.vals (knS t.vals.length t.holes) ts least most
def SmoothedS (t : Tr) (half : Int) : Tr × Int :=
  if firstS [traceS t, withinS half 0 64] ≠ 0 then (⟨0, [], []⟩, firstS [traceS t, withinS half 0 64]) else foldTr t (windowS half 1) (-half) half
def BandS (t : Tr) (short long : Int) : Tr × Int :=
  if firstS [traceS t, withinS short 0 64, withinS long 0 64, whenS (decide (long ≤ short)) 11] ≠ 0 then (⟨0, [], []⟩, firstS [traceS t, withinS short 0 64, withinS long 0 64, whenS (decide (long ≤ short)) 11])
  else foldTr t (windowS long (-(2 * short + 1)) ++ windowS short (2 * long + 1)) (-long) long

end Go.Proofs.YtbpffadffbgloaaGreatDoor
