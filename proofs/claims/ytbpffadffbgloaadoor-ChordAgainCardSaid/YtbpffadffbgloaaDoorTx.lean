/- The plain laws of ChordAgain: what is restored is the geometry; what changes no reading. No program in sight. -/
import Derived.Test.YtbpffadffbgloaaDoorTg
import Derived.Test.YtbpffadffbgloaaDoorTf
set_option linter.unusedVariables false
set_option linter.unusedSimpArgs false
namespace Go.Proofs.YtbpffadffbgloaaDoor

theorem traceS_iff {t : Tr} : traceS t = 0 ↔ headS t.first t.vals = 0 ∧ bodyS t.first t.vals = 0 ∧ holesS t.vals.length (-1) t.holes = 0 ∧ formS t.vals t.holes = 0 := by
  unfold traceS
  by_cases e1 : headS t.first t.vals = 0
  · rw [if_neg (by rw [e1]; decide)]
    by_cases e2 : bodyS t.first t.vals = 0
    · rw [if_neg (by rw [e2]; decide)]
      by_cases e3 : holesS t.vals.length (-1) t.holes = 0
      · rw [if_neg (by rw [e3]; decide)]
        exact ⟨fun h => ⟨e1, e2, e3, h⟩, fun h => h.2.2.2⟩
      · rw [if_pos e3]; exact ⟨fun h => absurd h e3, fun h => absurd h.2.2.1 e3⟩
    · rw [if_pos e2]; exact ⟨fun h => absurd h e2, fun h => absurd h.2.1 e2⟩
  · rw [if_pos e1]; exact ⟨fun h => absurd h e1, fun h => absurd h.1 e1⟩
/-- A trace without holes is valid if its places and values are. -/
theorem traceS_plain {f : Int} {l : List Int} (f0 : 0 ≤ f) (f1 : f + l.length ≤ 100000000) (hl : l.length ≤ 4096) (hv : ∀ x ∈ l, -1073741824 ≤ x ∧ x ≤ 1073741824) : traceS ⟨f, l, []⟩ = 0 := by
  have := made_valid (f := f) (l := l.map fun x => (x, true)) (by
    rw [List.any_eq_false]
    intro x hx
    obtain ⟨y, hy, rfl⟩ := List.mem_map.1 hx
    have e : readingS y = 0 := by unfold readingS; rw [withinS_eq]; exact hv y hy
    unfold badS; rw [e]; simp) f0 (by rw [List.length_map]; exact f1) (by rw [List.length_map]; exact hl)
  rwa [addAll_ends] at this

/-- A versine of levels. -/
def versV (b a : Int) (l : List Int) (i : Nat) : Int := (b + a) * l.getD (i + b.toNat) 0 - a * l.getD i 0 - b * l.getD (i + (b + a).toNat) 0
def SmallL (l : List Int) : Prop := ∀ i : Nat, -100000 ≤ l.getD i 0 ∧ l.getD i 0 ≤ 100000
theorem smallL_of {l : List Int} (h : ∀ x ∈ l, -100000 ≤ x ∧ x ≤ 100000) : SmallL l := by
  intro i
  by_cases hi : i < l.length
  · rw [List.getD_eq_getElem?_getD, List.getElem?_eq_getElem hi]; exact h _ (List.getElem_mem hi)
  · rw [List.getD_eq_getElem?_getD, List.getElem?_eq_none (by omega)]; exact ⟨by decide, by decide⟩
theorem versV_small {b a : Int} {l : List Int} (hb : 1 ≤ b) (hb2 : b ≤ 32) (ha : 1 ≤ a) (ha2 : a ≤ 32) (hs : SmallL l) (i : Nat) : -20000000 ≤ versV b a l i ∧ versV b a l i ≤ 20000000 := by
  have bnd : ∀ u v : Int, u.natAbs ≤ 64 → v.natAbs ≤ 100000 → -6400000 ≤ u * v ∧ u * v ≤ 6400000 := by
    intro u v h5 h6
    have := Int.natAbs_mul u v
    have h7 := Nat.mul_le_mul h5 h6
    generalize u * v = c at *
    generalize u.natAbs * v.natAbs = d at *
    omega
  have h1 := hs (i + b.toNat)
  have h2 := hs i
  have h3 := hs (i + (b + a).toNat)
  have k1 := bnd (b + a) (l.getD (i + b.toNat) 0) (by omega) (by omega)
  have k2 := bnd a (l.getD i 0) (by omega) (by omega)
  have k3 := bnd b (l.getD (i + (b + a).toNat) 0) (by omega) (by omega)
  unfold versV
  omega
/-- Versines of levels without holes. -/
theorem vers_plain {b a f : Int} {l : List Int} (hb : 1 ≤ b) (hb2 : b ≤ 32) (ha : 1 ≤ a) (ha2 : a ≤ 32) (hs : SmallL l) (hn : b + a < l.length) :
    RVersinesS b a ⟨f, l, []⟩ = (⟨f + b, (List.range (l.length - (b + a).toNat)).map (versV b a l), []⟩, 0) := by
  have hVg : ∀ i : Nat, i < l.length → (valuesS l []).getD i (0, false) = (l.getD i 0, true) := fun i hi => by rw [valuesS_get _ _ _ hi]; rfl
  have hU : summedL (valuesS l []) (versW b a) b a 1 = ((List.range (l.length - (b + a).toNat)).map (versV b a l)).map fun x => (x, true) := by
    unfold summedL
    rw [valuesS_len, List.map_map]
    have e : ((l.length : Int) - b - a).toNat = l.length - (b + a).toNat := by omega
    rw [e]
    refine List.map_congr_left fun i hi => ?_
    have hi := List.mem_range.1 hi
    rw [wsum_vers _ _ _ _ hb ha, hVg _ (by omega), hVg _ (by omega), hVg _ (by omega)]
    simp only [Function.comp, versV, Bool.and_self]
    rw [Int.neg_mul, Int.neg_mul]
    refine Prod.ext ?_ rfl
    dsimp only; omega
  show summedS f (valuesS l []) (versW b a) b a 1 = _
  unfold summedS
  rw [hU, if_neg (by simp only [List.length_map, List.length_range]; omega)]
  unfold madeS
  rw [addAll_ends, if_neg]
  rw [Bool.not_eq_true, List.any_eq_false]
  intro x hx
  obtain ⟨y, hy, rfl⟩ := List.mem_map.1 hx
  obtain ⟨i, _, rfl⟩ := List.mem_map.1 hy
  have h1 := versV_small hb hb2 ha ha2 hs i
  have e : readingS (versV b a l i) = 0 := by unfold readingS; rw [withinS_eq]; omega
  unfold badS; rw [e]; simp

/-- Heights of levels, as far as they are known. -/
def heights (l : List Int) (kn : Nat → Bool) (n : Nat) : List (Int × Bool) := (List.range n).map fun (i : Nat) => (if kn i then l.getD i 0 else 0, kn i)
theorem heights_get (l : List Int) (kn : Nat → Bool) (n i : Nat) (h : i < n) : (heights l kn n).getD i (0, false) = (if kn i then l.getD i 0 else 0, kn i) := by simp [heights, h]
theorem heights_succ (l : List Int) (kn : Nat → Bool) (n : Nat) : heights l kn (n + 1) = heights l kn n ++ [(if kn n then l.getD n 0 else 0, kn n)] := by
  unfold heights; rw [List.range_succ, List.map_append]; rfl
theorem nextS_vers {b a : Int} {l : List Int} (hb : 1 ≤ b) (hs : SmallL l) (i : Nat) : nextS b a (l.getD (i + b.toNat) 0) (l.getD i 0) (versV b a l i) = (l.getD (i + (b + a).toNat) 0, 0) := by
  have e : (b + a) * l.getD (i + b.toNat) 0 - a * l.getD i 0 - versV b a l i = b * l.getD (i + (b + a).toNat) 0 := by unfold versV; omega
  have h1 := hs (i + (b + a).toNat)
  unfold nextS
  dsimp only
  rw [e, Int.mul_tmod_right, if_neg (by decide), Int.mul_tdiv_cancel_left _ (by omega)]
  have e2 : readingS (l.getD (i + (b + a).toNat) 0) = 0 := by unfold readingS; rw [withinS_eq]; omega
  rw [e2]; rfl
/-- What is restored out of readings of levels. -/
theorem rest_levels {b a : Int} {l : List Int} {v : Tr} {kn : Nat → Bool} (hb : 1 ≤ b) (ha : 1 ≤ a) (hs : SmallL l) (hn : v.vals.length = l.length - (b + a).toNat) (hlen : (b + a).toNat ≤ l.length)
    (hv : ∀ i : Nat, i < v.vals.length → knownB v.holes i = true → v.vals.getD i 0 = versV b a l i) (k0 : ∀ i : Nat, i < (b + a).toNat → kn i = true)
    (k1 : ∀ i : Nat, i < v.vals.length → kn (i + (b + a).toNat) = (knownB v.holes i && kn i && kn (i + b.toNat))) :
    ∀ k : Nat, k ≤ v.vals.length → restL b a v (l.take (b + a).toNat) k = (0, heights l kn ((b + a).toNat + k))
  | 0, _ => by
    unfold restL heights
    refine Prod.ext rfl ?_
    dsimp only
    refine List.ext_getElem? fun i => ?_
    by_cases hi : i < (b + a).toNat
    · simp only [List.getElem?_map, List.getElem?_take, if_pos hi, List.getElem?_range (show i < (b + a).toNat + 0 by omega), Option.map_some]
      rw [List.getElem?_eq_getElem (by omega), k0 i hi]
      simp [List.getD_eq_getElem?_getD, List.getElem?_eq_getElem (show i < l.length by omega)]
    · rw [List.getElem?_eq_none (by simp; omega), List.getElem?_eq_none (by simp; omega)]
  | k + 1, hk => by
    have ih := rest_levels hb ha hs hn hlen hv k0 k1 k (by omega)
    have e3 : (b + a).toNat + k = k + (b + a).toNat := by omega
    rw [restL, ih, if_neg (by simp)]
    dsimp only
    unfold restStep
    rw [heights_get _ _ _ _ (by omega), heights_get _ _ _ _ (by omega)]
    dsimp only
    rw [show (b + a).toNat + (k + 1) = ((b + a).toNat + k) + 1 by omega, heights_succ, e3, k1 k (by omega)]
    by_cases hc : (knownB v.holes k && kn k && kn (k + b.toNat)) = true
    · have hc' := hc
      simp only [Bool.and_eq_true] at hc'
      rw [if_pos hc, hc'.1.2, hc'.2, if_pos rfl, if_pos rfl, hv k (by omega) hc'.1.1, nextS_vers hb hs k, hc'.1.1]
      simp
    · have hc2 : (knownB v.holes k && kn k && kn (k + b.toNat)) = false := by simpa using hc
      rw [if_neg hc, hc2]
      simp

/-- Restored levels: the whole call. -/
theorem restored_levels {b a f : Int} {l : List Int} {v : Tr} {kn : Nat → Bool} (hc : chordS b a = 0) (hs : SmallL l) (hve : ∀ x ∈ l, readingS x = 0) (hn : v.vals.length = l.length - (b + a).toNat) (hlen : (b + a).toNat ≤ l.length)
    (hv : ∀ i : Nat, i < v.vals.length → knownB v.holes i = true → v.vals.getD i 0 = versV b a l i) (k0 : ∀ i : Nat, i < (b + a).toNat → kn i = true)
    (k1 : ∀ i : Nat, i < v.vals.length → kn (i + (b + a).toNat) = (knownB v.holes i && kn i && kn (i + b.toNat)))
    (ht : traceS v = 0) (hf : v.first = f + b) (f0 : 0 ≤ f) (f1 : f + l.length ≤ 100000000) (hl : l.length ≤ 4096) :
    RestoredS b a v (l.take (b + a).toNat) = (⟨f, (addAll (heights l kn l.length)).1, (addAll (heights l kn l.length)).2⟩, 0) := by
  have hco := chordS_ok hc
  have hel : (l.take (b + a).toNat).length = (b + a).toNat := by rw [List.length_take]; omega
  have e1 : restE1 b a v (l.take (b + a).toNat) = 0 := by
    unfold restE1
    rw [hc, ht, hel, IntWalk.i64_in _ (by omega)]
    have : decide ((((b + a).toNat : Nat) : Int) ≠ b + a) = false := decide_eq_false (by omega)
    rw [this]; rfl
  have e2 : firstS ((l.take (b + a).toNat).map readingS) = 0 := by
    rw [firstS_eq]
    intro x hx
    obtain ⟨y, hy, rfl⟩ := List.mem_map.1 hx
    exact hve y (List.mem_of_mem_take hy)
  have e3 : restE3 b v (l.take (b + a).toNat) = 0 := by
    unfold restE3
    rw [hel, hf, hn]
    have q1 : decide (f + b < b) = false := decide_eq_false (by omega)
    have q2 : decide (4096 < (((b + a).toNat : Nat) : Int) + ((l.length - (b + a).toNat : Nat) : Int)) = false := decide_eq_false (by omega)
    have q3 : decide (100000000 < f + b - b + ((((b + a).toNat : Nat) : Int) + ((l.length - (b + a).toNat : Nat) : Int))) = false := decide_eq_false (by omega)
    rw [q1, q2, q3]; rfl
  have hr := rest_levels (v := v) (kn := kn) hco.1.1 hco.2.1 hs hn hlen hv k0 k1 v.vals.length (Nat.le_refl _)
  unfold RestoredS
  rw [if_neg (by rw [e1]; decide), if_neg (by rw [e2]; decide), if_neg (by rw [e3]; decide)]
  unfold restR
  rw [hr, if_neg (by simp)]
  have q : (b + a).toNat + v.vals.length = l.length := by omega
  rw [q, hf]
  have q2 : f + b - b = f := by omega
  rw [q2]
theorem heights_all (l : List Int) : addAll (heights l (fun _ => true) l.length) = (l, []) := by
  have e : heights l (fun _ => true) l.length = l.map fun x => (x, true) := by
    refine List.ext_getElem? fun i => ?_
    by_cases hi : i < l.length
    · simp [heights, hi]
    · simp [heights, hi]
  rw [e, addAll_ends]

/-- What is known of heights that are restored out of readings with one hole. -/
def knL (b a k : Nat) : Nat → List Bool
  | 0 => []
  | i + 1 => knL b a k i ++ [if i < b + a then true else decide (i - (b + a) ≠ k) && (knL b a k i).getD (i - (b + a)) false && (knL b a k i).getD (i - (b + a) + b) false]
def knF (b a k i : Nat) : Bool := (knL b a k (i + 1)).getD i false
theorem knL_len (b a k : Nat) : ∀ n, (knL b a k n).length = n
  | 0 => rfl
  | n + 1 => by rw [knL, List.length_append, knL_len b a k n]; rfl
theorem knL_get (b a k : Nat) : ∀ n i, i < n → (knL b a k n).getD i false = knF b a k i
  | 0, i, h => by omega
  | n + 1, i, h => by
    by_cases e : i = n
    · subst e; rfl
    · rw [knL, List.getD_eq_getElem?_getD, List.getElem?_append_left (by rw [knL_len]; omega), ← List.getD_eq_getElem?_getD]
      exact knL_get b a k n i (by omega)
theorem knF_step (b a k i : Nat) : knF b a k i = if i < b + a then true else decide (i - (b + a) ≠ k) && (knL b a k i).getD (i - (b + a)) false && (knL b a k i).getD (i - (b + a) + b) false := by
  unfold knF
  rw [knL]
  have := knL_len b a k i
  rw [List.getD_eq_getElem?_getD, List.getElem?_append_right (by omega)]
  simp [this]
theorem knF_low {b a k i : Nat} (h : i < b + a) : knF b a k i = true := by rw [knF_step, if_pos h]
theorem knF_high {b a k i : Nat} (ha : 1 ≤ a) (hb : 1 ≤ b) : knF b a k (i + (b + a)) = (decide (i ≠ k) && knF b a k i && knF b a k (i + b)) := by
  rw [knF_step, if_neg (by omega)]
  have e : i + (b + a) - (b + a) = i := by omega
  rw [e, knL_get _ _ _ _ _ (by omega), knL_get _ _ _ _ _ (by omega)]
/-- The row of what is known, so far. -/
def knRow (b a k n i : Nat) : List Bool := knL b a k i ++ List.replicate (n - i) false
theorem knRow_len (b a k n i : Nat) (h : i ≤ n) : (knRow b a k n i).length = n := by
  unfold knRow; rw [List.length_append, knL_len, List.length_replicate]; omega
theorem knRow_get (b a k n i j : Nat) (h : j < i) : (knRow b a k n i).getD j false = knF b a k j := by
  unfold knRow
  rw [List.getD_eq_getElem?_getD, List.getElem?_append_left (by rw [knL_len]; exact h), ← List.getD_eq_getElem?_getD]
  exact knL_get b a k i j h
theorem knRow_set (b a k n i : Nat) (h : i < n) : (knRow b a k n i).set i (knF b a k i) = knRow b a k n (i + 1) := by
  have e : n - i = (n - (i + 1)) + 1 := by omega
  have hl := knL_len b a k i
  unfold knRow
  rw [e, List.replicate_succ, List.set_append_right _ _ (by omega), hl, Nat.sub_self, List.set_cons_zero, knL, ← knF_step, List.append_assoc]
  rfl
theorem knF_expr {b a : Int} (b1 : 1 ≤ b) (a1 : 1 ≤ a) (k n i : Nat) :
    (bif decide ((i : Int) - b - a < 0) then true else bif (bif decide ((i : Int) - b - a ≠ (k : Int)) then (knRow b.toNat a.toNat k n i).getD ((i : Int) - b - a).toNat false else false) then (knRow b.toNat a.toNat k n i).getD ((i : Int) - b - a + b).toNat false else false) = knF b.toNat a.toNat k i := by
  rw [knF_step]
  by_cases h : i < b.toNat + a.toNat
  · rw [if_pos h, decide_eq_true (show (i : Int) - b - a < 0 by omega)]; rfl
  · rw [if_neg h, decide_eq_false (show ¬ (i : Int) - b - a < 0 by omega)]
    have e1 : ((i : Int) - b - a).toNat = i - (b.toNat + a.toNat) := by omega
    have e2 : ((i : Int) - b - a + b).toNat = i - (b.toNat + a.toNat) + b.toNat := by omega
    have e3 : decide ((i : Int) - b - a ≠ (k : Int)) = decide (i - (b.toNat + a.toNat) ≠ k) := decide_eq_decide.2 (by omega)
    rw [e1, e2, e3, knRow_get _ _ _ _ _ _ (by omega), knRow_get _ _ _ _ _ _ (by omega), knL_get _ _ _ _ _ (by omega), knL_get _ _ _ _ _ (by omega)]
    cases decide (i - (b.toNat + a.toNat) ≠ k) <;> cases knF b.toNat a.toNat k (i - (b.toNat + a.toNat)) <;> rfl
/-- Levels, of which the first have been moved. -/
def movedK (l : List Int) (n1 n2 n3 : Int) (g j : Nat) : List Int := (List.range l.length).map fun (i : Nat) => if i < j then l.getD i 0 + (n1 + n2 * (i : Int) + n3 * ((i % g : Nat) : Int)) else l.getD i 0
theorem movedK_len (l : List Int) (n1 n2 n3 : Int) (g j : Nat) : (movedK l n1 n2 n3 g j).length = l.length := by simp [movedK]
theorem movedK_zero (l : List Int) (n1 n2 n3 : Int) (g : Nat) : movedK l n1 n2 n3 g 0 = l := by
  refine List.ext_getElem? fun i => ?_
  by_cases hi : i < l.length <;> simp [movedK, hi]
theorem movedK_get (l : List Int) (n1 n2 n3 : Int) (g j : Nat) (h : j < l.length) : (movedK l n1 n2 n3 g j).getD j 0 = l.getD j 0 := by simp [movedK, h]
theorem movedK_set (l : List Int) (n1 n2 n3 : Int) (g j : Nat) : (movedK l n1 n2 n3 g j).set j (l.getD j 0 + (n1 + n2 * (j : Int) + n3 * ((j % g : Nat) : Int))) = movedK l n1 n2 n3 g (j + 1) := by
  refine List.ext_getElem (by simp [movedK]) fun i h1 h2 => ?_
  rw [List.getElem_set]
  simp only [movedK, List.getElem_map, List.getElem_range]
  by_cases e : j = i
  · subst e; rw [if_pos rfl, if_pos (by omega)]
  · rw [if_neg e]
    by_cases h : i < j
    · rw [if_pos h, if_pos (by omega)]
    · rw [if_neg h, if_neg (by omega)]
/-- Readings with one hole. -/
def tornT (v : Tr) (k : Nat) : Tr := ⟨v.first, v.vals.set k 0, [((k : Int), (k : Int) + 1)]⟩
theorem torn_known (k i : Nat) : knownB [((k : Int), (k : Int) + 1)] i = decide (i ≠ k) := by
  rw [knownB_one]
  by_cases e : i = k
  · subst e; simp; omega
  · have : (decide ((k : Int) ≤ (i : Int)) && decide ((i : Int) < (k : Int) + 1)) = false := by
      rw [Bool.and_eq_false_iff]; simp only [decide_eq_false_iff_not]; omega
    rw [this]; simp [e]
theorem torn_valid {v : Tr} {k : Nat} (ht : traceS v = 0) (hk : k < v.vals.length) : traceS (tornT v k) = 0 := by
  obtain ⟨h1, h2, _, _⟩ := traceS_iff.1 ht
  refine traceS_iff.2 ⟨?_, ?_, ?_, ?_⟩
  · unfold headS tornT at *; dsimp only; rw [List.length_set]; exact h1
  · unfold bodyS tornT at *
    dsimp only
    rw [List.length_set]
    rw [firstS_eq] at h2 ⊢
    intro x hx
    simp only [List.mem_cons, List.not_mem_nil, or_false] at hx
    rcases hx with rfl | rfl
    · exact h2 _ (by simp)
    · have h3 := h2 (firstS (v.vals.map readingS)) (by simp)
      rw [firstS_eq] at h3 ⊢
      intro y hy
      obtain ⟨z, hz, rfl⟩ := List.mem_map.1 hy
      rcases List.mem_or_eq_of_mem_set hz with hz | rfl
      · exact h3 _ (List.mem_map.2 ⟨z, hz, rfl⟩)
      · decide
  · unfold tornT
    dsimp only
    rw [List.length_set]
    refine holesS_zero _ _ _ ?_ (List.pairwise_singleton _ _) ?_
    · intro p hp
      rcases List.mem_singleton.1 hp with rfl
      dsimp only; omega
    · intro p hp
      simp only [List.head?_cons, Option.mem_some_iff] at hp
      subst hp; dsimp only; omega
  · unfold tornT formS
    dsimp only
    have e : ((k : Int)).toNat = k := Int.toNat_natCast k
    have e2 : ((k : Int) + 1 - (k : Int)).toNat = 1 := by omega
    rw [e, e2, List.drop_eq_getElem_cons (by rw [List.length_set]; exact hk), if_neg]
    · rfl
    · simp

/-- Levels with a line and a wave added. -/
def movedAt (l : List Int) (n1 n2 n3 : Int) (g j : Nat) : Int := l.getD j 0 + (n1 + n2 * (j : Int) + n3 * ((j % g : Nat) : Int))
def movedL (l : List Int) (n1 n2 n3 : Int) (g : Nat) : List Int := (List.range l.length).map (movedAt l n1 n2 n3 g)
theorem movedK_end (l : List Int) (n1 n2 n3 : Int) (g : Nat) : movedK l n1 n2 n3 g l.length = movedL l n1 n2 n3 g := by
  unfold movedK movedL
  refine List.map_congr_left fun i hi => ?_
  rw [if_pos (List.mem_range.1 hi)]; rfl
theorem movedL_get (l : List Int) (n1 n2 n3 : Int) (g i : Nat) (h : i < l.length) : (movedL l n1 n2 n3 g).getD i 0 = movedAt l n1 n2 n3 g i := by simp [movedL, h]
theorem moved_vers {b a n1 n2 n3 : Int} {l : List Int} {g : Nat} (hb : 1 ≤ b) (ha : 1 ≤ a) (hgb : g ∣ b.toNat) (hga : g ∣ a.toNat) (i : Nat) (hi : i + (b + a).toNat < l.length) : versV b a (movedL l n1 n2 n3 g) i = versV b a l i := by
  unfold versV
  rw [movedL_get _ _ _ _ _ _ (by omega), movedL_get _ _ _ _ _ _ (by omega), movedL_get _ _ _ _ _ _ hi]
  unfold movedAt
  obtain ⟨p, hp⟩ := hgb
  obtain ⟨q, hq⟩ := hga
  have e1 : (i + b.toNat) % g = i % g := by rw [hp, Nat.add_mul_mod_self_left]
  have e2 : (i + (b + a).toNat) % g = i % g := by
    have : (b + a).toNat = g * (p + q) := by rw [Nat.mul_add, ← hp, ← hq]; omega
    rw [this, Nat.add_mul_mod_self_left]
  rw [e1, e2]
  have e3 : ((i + b.toNat : Nat) : Int) = (i : Int) + b := by omega
  have e4 : ((i + (b + a).toNat : Nat) : Int) = (i : Int) + (b + a) := by omega
  rw [e3, e4]
  generalize l.getD (i + b.toNat) 0 = x
  generalize l.getD i 0 = y
  generalize l.getD (i + (b + a).toNat) 0 = z
  generalize n3 * ((i % g : Nat) : Int) = w
  generalize (i : Int) = j
  simp only [Int.mul_add, Int.add_mul]
  have c1 : a * (n2 * b) = b * (n2 * a) := by rw [Int.mul_comm n2 b, Int.mul_comm n2 a, ← Int.mul_assoc, ← Int.mul_assoc, Int.mul_comm a b]
  generalize b * (n2 * a) = u1 at *
  generalize a * (n2 * b) = u2 at *
  generalize b * (n2 * b) = u3
  omega

end Go.Proofs.YtbpffadffbgloaaDoor
