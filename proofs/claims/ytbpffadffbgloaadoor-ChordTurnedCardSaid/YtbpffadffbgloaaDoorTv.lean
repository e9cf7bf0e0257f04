/- The plain law of ChordTurned: reversed and summed traces. No program in sight. -/
import Derived.Test.YtbpffadffbgloaaDoorTk
import Derived.Test.YtbpffadffbgloaaDoorTa
import Derived.Test.YtbpffadffbgloaaDoorRv
set_option linter.unusedVariables false
set_option linter.unusedSimpArgs false
namespace Go.Proofs.YtbpffadffbgloaaDoor


/-- Values whose unknown ones are nought. -/
def norm (l : List (Int × Bool)) : List (Int × Bool) := l.map fun x => (if x.2 then x.1 else 0, x.2)
theorem norm_len (l : List (Int × Bool)) : (norm l).length = l.length := by simp [norm]
theorem norm_get (l : List (Int × Bool)) (i : Nat) (h : i < l.length) : (norm l).getD i (0, false) = (if (l.getD i (0, false)).2 then (l.getD i (0, false)).1 else 0, (l.getD i (0, false)).2) := by
  simp only [norm, List.getD_eq_getElem?_getD, List.getElem?_map, List.getElem?_eq_getElem h, Option.map_some, Option.getD_some]
theorem addAll_norm (l : List (Int × Bool)) : addAll (norm l) = addAll l := by
  suffices h : ∀ m : List (Int × Bool), addAll (norm m.reverse) = addAll m.reverse by
    have := h l.reverse
    rwa [List.reverse_reverse] at this
  intro m
  induction m with
  | nil => rfl
  | cons q m ih =>
    have e : norm (m.reverse ++ [q]) = norm m.reverse ++ [(if q.2 then q.1 else 0, q.2)] := by simp [norm]
    rw [List.reverse_cons, e, addAll_snoc, addAll_snoc, ih]
    unfold addS
    obtain ⟨x, kn⟩ := q
    cases kn <;> rfl
theorem norm_ext {V W : List (Int × Bool)} (hl : V.length = W.length) (h : ∀ i : Nat, i < V.length → (V.getD i (0, false)).2 = (W.getD i (0, false)).2 ∧ ((W.getD i (0, false)).2 = true → (V.getD i (0, false)).1 = (W.getD i (0, false)).1)) : norm V = norm W := by
  refine List.ext_getElem (by rw [norm_len, norm_len, hl]) fun i h1 h2 => ?_
  have a1 : i < V.length := by rwa [norm_len] at h1
  have a2 : i < W.length := by rwa [norm_len] at h2
  have e1 := norm_get V i a1
  have e2 := norm_get W i a2
  rw [List.getD_eq_getElem?_getD, List.getElem?_eq_getElem h1, Option.getD_some] at e1
  rw [List.getD_eq_getElem?_getD, List.getElem?_eq_getElem h2, Option.getD_some] at e2
  rw [e1, e2, (h i a1).1]
  cases hk : (W.getD i (0, false)).2 with
  | false => rfl
  | true => rw [if_pos rfl, if_pos rfl, (h i a1).2 hk]
theorem addAll_ext {V W : List (Int × Bool)} (hl : V.length = W.length) (h : ∀ i : Nat, i < V.length → (V.getD i (0, false)).2 = (W.getD i (0, false)).2 ∧ ((W.getD i (0, false)).2 = true → (V.getD i (0, false)).1 = (W.getD i (0, false)).1)) : addAll V = addAll W := by
  rw [← addAll_norm V, ← addAll_norm W, norm_ext hl h]
theorem norm_bad (l : List (Int × Bool)) : (norm l).any badS = l.any badS := by
  unfold norm
  rw [List.any_map]
  congr 1
  funext x
  obtain ⟨x, kn⟩ := x
  cases kn <;> rfl

/-- Holes that lie as they may are told by what is known. -/
theorem knownB_cons (p : Int × Int) (l : List (Int × Int)) (i : Int) : knownB (p :: l) i = (!(decide (p.1 ≤ i) && decide (i < p.2)) && knownB l i) := by
  unfold knownB
  rw [List.any_cons, Bool.not_or]
theorem knownB_low {n : Nat} {l : List (Int × Int)} {i : Int} (h : ∀ q ∈ l, i < q.1) : knownB l i = true := by
  unfold knownB
  rw [Bool.not_eq_true', List.any_eq_false]
  intro q hq
  have := h q hq
  simp only [Bool.and_eq_true, decide_eq_true_eq]
  omega
theorem holes_unique (n : Nat) : ∀ hs ks : List (Int × Int), HolesOk n hs → HolesOk n ks → HApart hs → HApart ks → (∀ i : Int, 0 ≤ i → i < n → knownB hs i = knownB ks i) → hs = ks
  | [], [], _, _, _, _, _ => rfl
  | [], q :: ks, _, h2, _, _, he => by
    have hq := h2 q List.mem_cons_self
    have := he q.1 hq.1 (by omega)
    rw [knownB_nil, knownB_cons, decide_eq_true (Int.le_refl _), decide_eq_true hq.2.1] at this
    exact absurd this (by simp)
  | p :: hs, [], h1, _, _, _, he => by
    have hp := h1 p List.mem_cons_self
    have := he p.1 hp.1 (by omega)
    rw [knownB_nil, knownB_cons, decide_eq_true (Int.le_refl _), decide_eq_true hp.2.1] at this
    exact absurd this (by simp)
  | p :: hs, q :: ks, h1, h2, a1, a2, he => by
    have hp := h1 p List.mem_cons_self
    have hq := h2 q List.mem_cons_self
    obtain ⟨b1, c1⟩ := List.pairwise_cons.1 a1
    obtain ⟨b2, c2⟩ := List.pairwise_cons.1 a2
    have lowp : ∀ i : Int, i ≤ p.2 → knownB hs i = true := fun i hi => knownB_low (n := n) fun r hr => by have := b1 r hr; omega
    have lowq : ∀ i : Int, i ≤ q.2 → knownB ks i = true := fun i hi => knownB_low (n := n) fun r hr => by have := b2 r hr; omega
    have e1 : p.1 = q.1 := by
      rcases Int.lt_trichotomy p.1 q.1 with hlt | heq | hgt
      · have := he p.1 hp.1 (by omega)
        rw [knownB_cons, knownB_cons, lowq p.1 (by omega), decide_eq_true (Int.le_refl _), decide_eq_true hp.2.1, decide_eq_false (show ¬ q.1 ≤ p.1 by omega)] at this
        exact absurd this (by simp)
      · exact heq
      · have := he q.1 hq.1 (by omega)
        rw [knownB_cons, knownB_cons, lowp q.1 (by omega), decide_eq_true (Int.le_refl _), decide_eq_true hq.2.1, decide_eq_false (show ¬ p.1 ≤ q.1 by omega)] at this
        exact absurd this (by simp)
    have e2 : p.2 = q.2 := by
      rcases Int.lt_trichotomy p.2 q.2 with hlt | heq | hgt
      · have := he p.2 (by omega) (by omega)
        rw [knownB_cons, knownB_cons, lowp p.2 (by omega), decide_eq_false (show ¬ p.2 < p.2 by omega), decide_eq_true (show q.1 ≤ p.2 by omega), decide_eq_true hlt] at this
        exact absurd this (by simp)
      · exact heq
      · have := he q.2 (by omega) (by omega)
        rw [knownB_cons, knownB_cons, lowq q.2 (by omega), decide_eq_false (show ¬ q.2 < q.2 by omega), decide_eq_true (show p.1 ≤ q.2 by omega), decide_eq_true hgt] at this
        exact absurd this (by simp)
    have e3 : hs = ks := holes_unique n hs ks (fun r hr => h1 r (List.mem_cons_of_mem _ hr)) (fun r hr => h2 r (List.mem_cons_of_mem _ hr)) c1 c2 fun i hi0 hi => by
      by_cases hc : i ≤ p.2
      · rw [lowp i hc, lowq i (by omega)]
      · have := he i hi0 hi
        rw [knownB_cons, knownB_cons, decide_eq_false (show ¬ i < p.2 by omega), decide_eq_false (show ¬ i < q.2 by omega)] at this
        simpa using this
    rw [e3, Prod.ext e1 e2]
theorem holesS_apart (n : Nat) : ∀ (hs : List (Int × Int)) (last : Int), holesS n last hs = 0 → HApart hs ∧ ∀ p ∈ hs, last < p.1
  | [], last, _ => ⟨List.Pairwise.nil, fun p hp => by cases hp⟩
  | h :: l, last, hz => by
    unfold holesS at hz
    have e : holeS n last h = 0 := by
      by_cases e : holeS n last h = 0
      · exact e
      · rw [if_pos e] at hz; exact hz
    rw [if_neg (by rw [e]; decide)] at hz
    unfold holeS at e
    rw [firstS_eq] at e
    have e1 := e (spanS n h) (by simp)
    have e2 := e (whenS (decide (h.1 ≤ last)) 11) (by simp)
    rw [spanS, whenS_eq _ _ (by decide)] at e1
    rw [whenS_eq _ _ (by decide)] at e2
    simp only [Bool.or_eq_false_iff, decide_eq_false_iff_not] at e1 e2
    obtain ⟨ih1, ih2⟩ := holesS_apart n l h.2 hz
    refine ⟨List.pairwise_cons.2 ⟨ih2, ih1⟩, fun p hp => ?_⟩
    rcases List.mem_cons.1 hp with rfl | hp
    · omega
    · have := ih2 p hp; omega
theorem formS_zero (l : List Int) : ∀ hs : List (Int × Int), formS l hs = 0 → ∀ p ∈ hs, ∀ i : Nat, 0 ≤ p.1 → p.1 ≤ i → (i : Int) < p.2 → l.getD i 0 = 0
  | [], _, p, hp => by cases hp
  | h :: r, hz, p, hp => by
    intro i h0 h1 h2
    unfold formS at hz
    by_cases e : ((l.drop h.1.toNat).take (h.2 - h.1).toNat).any (· != 0) = true
    · rw [if_pos e] at hz; exact absurd hz (by decide)
    · rw [if_neg e] at hz
      rcases List.mem_cons.1 hp with rfl | hp
      · have hall := List.any_eq_false.1 (Bool.eq_false_iff.2 e)
        by_cases hi : i < l.length
        · have hm : l[i] ∈ (l.drop p.1.toNat).take (p.2 - p.1).toNat := by
            rw [List.mem_iff_getElem?]
            refine ⟨i - p.1.toNat, ?_⟩
            rw [List.getElem?_take_of_lt (by omega), List.getElem?_drop, show p.1.toNat + (i - p.1.toNat) = i by omega, List.getElem?_eq_getElem hi]
          have := hall _ hm
          rw [List.getD_eq_getElem?_getD, List.getElem?_eq_getElem hi, Option.getD_some]
          simpa using this
        · rw [List.getD_eq_getElem?_getD, List.getElem?_eq_none (by omega)]; rfl
      · exact formS_zero l r hz p hp i h0 h1 h2
theorem traceS_parts {t : Tr} (h : traceS t = 0) : holesS t.vals.length (-1) t.holes = 0 ∧ formS t.vals t.holes = 0 := by
  unfold traceS at h
  by_cases e1 : headS t.first t.vals = 0
  · rw [if_neg (by rw [e1]; decide)] at h
    by_cases e2 : bodyS t.first t.vals = 0
    · rw [if_neg (by rw [e2]; decide)] at h
      by_cases e3 : holesS t.vals.length (-1) t.holes = 0
      · rw [if_neg (by rw [e3]; decide)] at h
        exact ⟨e3, h⟩
      · rw [if_pos e3] at h; exact absurd h e3
    · rw [if_pos e2] at h; exact absurd h e2
  · rw [if_pos e1] at h; exact absurd h e1
theorem unknown_zero {t : Tr} (h : traceS t = 0) (i : Nat) (hk : knownB t.holes i = false) : t.vals.getD i 0 = 0 := by
  obtain ⟨h1, h2⟩ := traceS_parts h
  unfold knownB at hk
  rw [Bool.not_eq_false', List.any_eq_true] at hk
  obtain ⟨p, hp, hc⟩ := hk
  simp only [Bool.and_eq_true, decide_eq_true_eq] at hc
  exact formS_zero _ _ h2 p hp i (holesS_ok _ _ _ h1 p hp).1 hc.1 hc.2
theorem norm_values {t : Tr} (h : traceS t = 0) : norm (valuesS t.vals t.holes) = valuesS t.vals t.holes := by
  unfold norm valuesS
  rw [List.map_map]
  refine List.map_congr_left fun i _ => ?_
  simp only [Function.comp]
  cases hk : knownB t.holes i with
  | true => rfl
  | false => rw [unknown_zero h i hk]; rfl
/-- A valid trace is what its values make. -/
theorem made_self {t : Tr} (h : traceS t = 0) : addAll (valuesS t.vals t.holes) = (t.vals, t.holes) := by
  refine Prod.ext ?_ ?_
  · have e := norm_values h
    show (addAll _).1 = t.vals
    rw [addAll_vals]
    refine List.ext_getElem (by rw [List.length_map, valuesS_len]) fun i h1 h2 => ?_
    have g := valuesS_get t.vals t.holes i h2
    rw [List.getD_eq_getElem?_getD, List.getElem?_eq_getElem (by rw [valuesS_len]; exact h2), Option.getD_some] at g
    rw [List.getElem_map, g]
    have gd : t.vals.getD i 0 = t.vals[i] := by rw [List.getD_eq_getElem?_getD, List.getElem?_eq_getElem h2]; rfl
    cases hk : knownB t.holes i with
    | true => rw [if_pos rfl, gd]
    | false => rw [← gd, unknown_zero h i hk]; rfl
  · obtain ⟨h1, _⟩ := traceS_parts h
    obtain ⟨i1, i2, i3⟩ := addAll_inv (valuesS t.vals t.holes)
    rw [valuesS_len] at i1 i3
    refine holes_unique t.vals.length _ _ i1 (holesS_ok _ _ _ h1) i2 (holesS_apart _ _ _ h1).1 fun i hi0 hi => ?_
    obtain ⟨j, rfl⟩ := Int.eq_ofNat_of_zero_le hi0
    have hj : j < t.vals.length := by omega
    rw [i3 j hj, valuesS_get _ _ _ hj]

/-- The trace that values make. -/
def mkT (f : Int) (V : List (Int × Bool)) : Tr := ⟨f, (addAll V).1, (addAll V).2⟩
theorem mkT_self {t : Tr} (h : traceS t = 0) : mkT t.first (valuesS t.vals t.holes) = t := by
  unfold mkT; rw [made_self h]
theorem mkT_len (f : Int) (V : List (Int × Bool)) : (mkT f V).vals.length = V.length ∧ (mkT f V).holes.length ≤ V.length := addAll_len V
theorem mkT_values (f : Int) (V : List (Int × Bool)) : valuesS (mkT f V).vals (mkT f V).holes = norm V := made_values V
theorem mkT_norm (f : Int) (V : List (Int × Bool)) : mkT f (norm V) = mkT f V := by unfold mkT; rw [addAll_norm]
theorem madeS_mk {f : Int} {V : List (Int × Bool)} (h : V.any badS = false) : madeS f V = (mkT f V, 0) := by
  unfold madeS; rw [h]; rfl
theorem mkT_valid {f : Int} {V : List (Int × Bool)} (hb : V.any badS = false) (f0 : 0 ≤ f) (f1 : f + V.length ≤ 100000000) (hl : V.length ≤ 4096) : traceS (mkT f V) = 0 := made_valid hb f0 f1 hl
theorem norm_reverse (V : List (Int × Bool)) : (norm V).reverse = norm V.reverse := by unfold norm; rw [List.map_reverse]
theorem reversed_mk {f p : Int} {V : List (Int × Bool)} (hb : V.any badS = false) (h0 : 0 ≤ 2 * p + 1 - f - V.length) (h1 : 2 * p + 1 - f ≤ 100000000) : RReversedS (mkT f V) p = (mkT (2 * p + 1 - f - V.length) V.reverse, 0) := by
  unfold RReversedS
  rw [mkT_values, (mkT_len f V).1, norm_reverse]
  show (if 2 * p + 1 - f - (V.length : Int) < 0 ∨ 100000000 < 2 * p + 1 - f - (V.length : Int) + V.length then _ else madeS (2 * p + 1 - f - (V.length : Int)) (norm V.reverse)) = _
  rw [if_neg (by omega), madeS_mk (by rw [norm_bad, List.any_reverse]; exact hb), mkT_norm]

theorem addAll_known (l : List Int) : addAll (l.map fun x => (x, true)) = (l, []) := by
  suffices h : ∀ m : List Int, addAll (m.reverse.map fun x => (x, true)) = (m.reverse, []) by
    have := h l.reverse
    rwa [List.reverse_reverse] at this
  intro m
  induction m with
  | nil => rfl
  | cons q m ih => rw [List.reverse_cons, List.map_append, List.map_cons, List.map_nil, addAll_snoc, ih]; rfl
theorem traceS_iff2 {t : Tr} : traceS t = 0 ↔ headS t.first t.vals = 0 ∧ bodyS t.first t.vals = 0 ∧ holesS t.vals.length (-1) t.holes = 0 ∧ formS t.vals t.holes = 0 := by
  unfold traceS
  by_cases e1 : headS t.first t.vals = 0
  · rw [if_neg (by rw [e1]; decide)]
    by_cases e2 : bodyS t.first t.vals = 0
    · rw [if_neg (by rw [e2]; decide)]
      by_cases e3 : holesS t.vals.length (-1) t.holes = 0
      · rw [if_neg (by rw [e3]; decide)]
        exact ⟨fun h => ⟨e1, e2, e3, h⟩, fun h => h.2.2.2⟩
      · rw [if_pos e3]; exact ⟨fun h => absurd h e3, fun h => absurd h.2.2.1 e3⟩
    · rw [if_pos e2]; exact ⟨fun h => absurd h e2, fun h => absurd h.2.1 e2⟩
  · rw [if_pos e1]; exact ⟨fun h => absurd h e1, fun h => absurd h.1 e1⟩
/-- A trace without holes is valid if its places and values are. -/
theorem traceS_line {f : Int} {l : List Int} (f0 : 0 ≤ f) (f1 : f + l.length ≤ 100000000) (hl : l.length ≤ 4096) (hv : ∀ x ∈ l, -1073741824 ≤ x ∧ x ≤ 1073741824) : traceS ⟨f, l, []⟩ = 0 := by
  have := made_valid (f := f) (l := l.map fun x => (x, true)) (by
    rw [List.any_eq_false]
    intro x hx
    obtain ⟨y, hy, rfl⟩ := List.mem_map.1 hx
    have e : readingS y = 0 := by unfold readingS; rw [withinS_eq]; exact hv y hy
    unfold badS; rw [e]; simp) f0 (by rw [List.length_map]; exact f1) (by rw [List.length_map]; exact hl)
  rwa [addAll_known] at this



theorem mulB {x y : Int} {c d : Nat} (h : x.natAbs ≤ c) (h2 : y.natAbs ≤ d) : (x * y).natAbs ≤ c * d := by
  rw [Int.natAbs_mul]; exact Nat.mul_le_mul h h2
theorem Sg_bound (g : Nat → Int) (c : Nat) : ∀ m, (∀ k, k < m → (g k).natAbs ≤ c) → (Sg m g).natAbs ≤ m * c
  | 0, _ => by simp [Sg]
  | m + 1, h => by
    have h1 := Sg_bound g c m fun k hk => h k (by omega)
    have h2 := h m (by omega)
    simp only [Sg, Nat.succ_mul]
    omega
theorem Al_congr {g h : Nat → Bool} : ∀ m, (∀ k, k < m → g k = h k) → Al m g = Al m h
  | 0, _ => rfl
  | m + 1, e => by simp only [Al]; rw [Al_congr m (fun k hk => e k (by omega)), e m (by omega)]
theorem Al_and (g h : Nat → Bool) : ∀ m, Al m (fun k => g k && h k) = (Al m g && Al m h)
  | 0 => rfl
  | m + 1 => by
    simp only [Al]
    rw [Al_and g h m]
    cases Al m g <;> cases Al m h <;> cases g m <;> cases h m <;> rfl
theorem Sg_mul (x : Int) (g : Nat → Int) : ∀ m, Sg m (fun k => g k * x) = Sg m g * x
  | 0 => by simp [Sg]
  | m + 1 => by simp only [Sg]; rw [Sg_mul x g m, Int.add_mul]

/-- A sum of weighted values at fixed distances. -/
def lin (N : Nat) (c : Nat → Int) (o : Nat → Nat) (V : List (Int × Bool)) (i : Nat) : Int × Bool :=
  (Sg N (fun k => c k * (V.getD (i + o k) (0, false)).1), Al N (fun k => (V.getD (i + o k) (0, false)).2))
def linL (N : Nat) (c : Nat → Int) (o : Nat → Nat) (m : Nat) (V : List (Int × Bool)) : List (Int × Bool) := (List.range m).map (lin N c o V)
theorem linL_len (N : Nat) (c : Nat → Int) (o : Nat → Nat) (m : Nat) (V : List (Int × Bool)) : (linL N c o m V).length = m := by simp [linL]
theorem linL_get (N : Nat) (c : Nat → Int) (o : Nat → Nat) (m : Nat) (V : List (Int × Bool)) (i : Nat) (h : i < m) : (linL N c o m V).getD i (0, false) = lin N c o V i := by simp [linL, h]
def Bd (M : Nat) (V : List (Int × Bool)) : Prop := ∀ i : Nat, (V.getD i (0, false)).1.natAbs ≤ M
theorem lin_bound {N : Nat} {c : Nat → Int} {o : Nat → Nat} {V : List (Int × Bool)} {C M : Nat} (hc : ∀ k, k < N → (c k).natAbs ≤ C) (hV : Bd M V) (i : Nat) : (lin N c o V i).1.natAbs ≤ N * (C * M) :=
  Sg_bound _ _ _ fun k hk => mulB (hc k hk) (hV _)
theorem bd_good {L : List (Int × Bool)} {M : Nat} (hM : M ≤ 1073741824) (h : ∀ i : Nat, i < L.length → (L.getD i (0, false)).1.natAbs ≤ M) : L.any badS = false :=
  good_of fun i hi _ => by have := h i hi; omega
theorem lin_sum {N : Nat} {c : Nat → Int} {o : Nat → Nat} {V U S : List (Int × Bool)} {n i : Nat} (ho : ∀ k, k < N → i + o k < n)
    (hS : ∀ j : Nat, j < n → S.getD j (0, false) = (if (V.getD j (0, false)).2 && (U.getD j (0, false)).2 then (V.getD j (0, false)).1 + (U.getD j (0, false)).1 else 0, (V.getD j (0, false)).2 && (U.getD j (0, false)).2)) :
    (lin N c o S i).2 = ((lin N c o V i).2 && (lin N c o U i).2) ∧ ((lin N c o S i).2 = true → (lin N c o S i).1 = (lin N c o V i).1 + (lin N c o U i).1) := by
  have hk : (lin N c o S i).2 = ((lin N c o V i).2 && (lin N c o U i).2) := by
    unfold lin
    dsimp only
    rw [← Al_and]
    exact Al_congr _ fun k hk => by rw [hS _ (ho k hk)]
  refine ⟨hk, fun ht => ?_⟩
  unfold lin at ht ⊢
  dsimp only at ht ⊢
  rw [← Sg_add]
  refine Sg_congr _ fun k hk => ?_
  have := Al_at _ _ k hk ht
  try dsimp only at this
  rw [hS _ (ho k hk)] at this ⊢
  try dsimp only at this ⊢
  rw [if_pos this, Int.mul_add]

theorem mkT_ext (f : Int) {V W : List (Int × Bool)} (h : addAll V = addAll W) : mkT f V = mkT f W := by unfold mkT; rw [h]
/-- The sum of two made traces. -/
theorem sum_mk {g : Int} {P Q R : List (Int × Bool)} {m M : Nat} (hP : P.length = m) (hQ : Q.length = m) (hR : R.length = m) (hM : M ≤ 536870912)
    (bP : ∀ i : Nat, i < m → (P.getD i (0, false)).1.natAbs ≤ M) (bQ : ∀ i : Nat, i < m → (Q.getD i (0, false)).1.natAbs ≤ M)
    (h : ∀ i : Nat, i < m → (R.getD i (0, false)).2 = ((P.getD i (0, false)).2 && (Q.getD i (0, false)).2) ∧ ((R.getD i (0, false)).2 = true → (R.getD i (0, false)).1 = (P.getD i (0, false)).1 + (Q.getD i (0, false)).1)) :
    RSumS (mkT g P) (mkT g Q) = (mkT g R, 0) := by
  have lP := (mkT_len g P).1
  have lQ := (mkT_len g Q).1
  have hg : ∀ i : Nat, i < m → (sumV (mkT g P) (mkT g Q)).getD i (0, false) = ((if (P.getD i (0, false)).2 then (P.getD i (0, false)).1 else 0) + (if (Q.getD i (0, false)).2 then (Q.getD i (0, false)).1 else 0), (P.getD i (0, false)).2 && (Q.getD i (0, false)).2) := by
    intro i hi
    rw [sumV_get _ _ _ (by omega)]
    unfold mkT
    dsimp only
    rw [made_get i (by omega), made_get i (by omega), (addAll_inv P).2.2 i (by omega), (addAll_inv Q).2.2 i (by omega)]
  have hl : (sumV (mkT g P) (mkT g Q)).length = m := by rw [sumV_len]; omega
  have hbad : (sumV (mkT g P) (mkT g Q)).any badS = false := by
    refine bd_good (M := 1073741824) (Nat.le_refl _) fun i hi => ?_
    rw [hg i (by omega)]
    have h1 := bP i (by omega)
    have h2 := bQ i (by omega)
    dsimp only
    split <;> split <;> omega
  unfold RSumS
  rw [if_pos ⟨rfl, by omega⟩]
  show madeS g _ = _
  rw [madeS_mk hbad]
  rw [mkT_ext g (addAll_ext (V := sumV (mkT g P) (mkT g Q)) (W := R) (by omega) fun i hi => ?_)]
  obtain ⟨h1, h2⟩ := h i (by omega)
  rw [hg i (by omega)]
  refine ⟨h1.symm, fun hr => ?_⟩
  rw [h2 hr]
  rw [h1, Bool.and_eq_true] at hr
  dsimp only
  rw [if_pos hr.1, if_pos hr.2]

/-- What a law asks of a function of traces, at two traces and their sum. -/
structure FoldOk (G : Tr → Tr × Int) (t u S : Tr) : Prop where
  lens : (G t).1.vals.length ≤ 60 ∧ (G t).1.holes.length ≤ 60 ∧ (G u).1.vals.length ≤ 60 ∧ (G u).1.holes.length ≤ 60 ∧ (G S).1.vals.length ≤ 60 ∧ (G S).1.holes.length ≤ 60
  says : ((G t).2 = 16 ∧ (G u).2 = 16 ∧ (G S).2 = 16) ∨ ((G t).2 = 0 ∧ (G u).2 = 0 ∧ (G S).2 = 0 ∧ SumS (G t).1 (G u).1 = ((G S).1, 0))

theorem bd_values {t : Tr} {M : Nat} (h : ∀ x ∈ t.vals, x.natAbs ≤ M) : Bd M (valuesS t.vals t.holes) := by
  intro i
  by_cases hi : i < t.vals.length
  · rw [valuesS_get _ _ _ hi, List.getD_eq_getElem?_getD, List.getElem?_eq_getElem hi]
    exact h _ (List.getElem_mem hi)
  · rw [List.getD_eq_getElem?_getD, List.getElem?_eq_none (by rw [valuesS_len]; omega)]
    exact Nat.zero_le _
/-- The sum of two small traces. -/
theorem sum_small {t u : Tr} (ht : traceS t = 0) (hu : traceS u = 0) (hf : t.first = u.first) (hn : t.vals.length = u.vals.length) (st : ∀ x ∈ t.vals, x.natAbs ≤ 20000) (su : ∀ x ∈ u.vals, x.natAbs ≤ 20000) :
    SumS t u = (mkT t.first (sumV t u), 0) ∧ traceS (mkT t.first (sumV t u)) = 0 ∧ Bd 40000 (norm (sumV t u)) ∧
    ∀ j : Nat, j < t.vals.length → (norm (sumV t u)).getD j (0, false) = (if ((valuesS t.vals t.holes).getD j (0, false)).2 && ((valuesS u.vals u.holes).getD j (0, false)).2 then ((valuesS t.vals t.holes).getD j (0, false)).1 + ((valuesS u.vals u.holes).getD j (0, false)).1 else 0, ((valuesS t.vals t.holes).getD j (0, false)).2 && ((valuesS u.vals u.holes).getD j (0, false)).2) := by
  have ok := traceS_ok ht
  have b1 := bd_values st
  have b2 := bd_values su
  have hj : ∀ j : Nat, j < t.vals.length → (norm (sumV t u)).getD j (0, false) = (if ((valuesS t.vals t.holes).getD j (0, false)).2 && ((valuesS u.vals u.holes).getD j (0, false)).2 then ((valuesS t.vals t.holes).getD j (0, false)).1 + ((valuesS u.vals u.holes).getD j (0, false)).1 else 0, ((valuesS t.vals t.holes).getD j (0, false)).2 && ((valuesS u.vals u.holes).getD j (0, false)).2) := by
    intro j hj
    rw [norm_get _ _ (by rw [sumV_len]; exact hj), sumV_get _ _ _ hj, valuesS_get _ _ _ hj, valuesS_get _ _ _ (hn ▸ hj)]
  have hb : Bd 40000 (norm (sumV t u)) := by
    intro j
    by_cases h : j < t.vals.length
    · rw [hj j h]
      have := b1 j
      have := b2 j
      dsimp only
      split <;> omega
    · rw [List.getD_eq_getElem?_getD, List.getElem?_eq_none (by rw [norm_len, sumV_len]; omega)]
      exact Nat.zero_le _
  have hbad : (sumV t u).any badS = false := by
    rw [← norm_bad]
    exact bd_good (M := 40000) (by decide) fun i _ => hb i
  refine ⟨?_, mkT_valid hbad ok.f0 (by rw [sumV_len]; exact ok.end_) (by rw [sumV_len]; exact ok.len), hb, hj⟩
  rw [SumS_ok ht hu]
  unfold RSumS
  rw [if_pos ⟨hf, hn⟩, madeS_mk hbad]

/-- A function that is linear keeps sums. -/
theorem fold_law {t u : Tr} (ht : traceS t = 0) (hu : traceS u = 0) (hf : t.first = u.first) (hn : t.vals.length = u.vals.length) (hl : t.vals.length ≤ 60) (hp : t.first ≤ 1000000) (st : ∀ x ∈ t.vals, x.natAbs ≤ 20000) (su : ∀ x ∈ u.vals, x.natAbs ≤ 20000)
    {G : Tr → Tr × Int} {bef : Int} {m N C : Nat} {c : Nat → Int} {o : Nat → Nat} (hb0 : 0 ≤ bef) (hb1 : bef ≤ 100)
    (hG : ∀ x : Tr, traceS x = 0 → x.vals.length = t.vals.length → G x = if m = 0 then (⟨0, [], []⟩, 16) else madeS (x.first + bef) (linL N c o m (valuesS x.vals x.holes)))
    (hm : m ≠ 0 → ∀ k, k < N → o k + m ≤ t.vals.length) (hm2 : m ≤ t.vals.length) (hC : ∀ k, k < N → (c k).natAbs ≤ C) (hN : N * (C * 40000) ≤ 536870912) : FoldOk G t u (SumS t u).1 := by
  obtain ⟨h1, h2, h3, h4⟩ := sum_small ht hu hf hn st su
  have ok := traceS_ok ht
  have b1 : Bd 40000 (valuesS t.vals t.holes) := bd_values fun x hx => by have := st x hx; omega
  have b2 : Bd 40000 (valuesS u.vals u.holes) := bd_values fun x hx => by have := su x hx; omega
  have e1 := hG t ht rfl
  have e2 := hG u hu hn.symm
  have e3 := hG (mkT t.first (sumV t u)) h2 (by rw [(mkT_len _ _).1, sumV_len])
  rw [mkT_values] at e3
  rw [h1]
  dsimp only
  by_cases hz : m = 0
  · rw [if_pos hz] at e1 e2 e3
    exact ⟨by rw [e1, e2, e3]; simp, .inl (by rw [e1, e2, e3]; exact ⟨rfl, rfl, rfl⟩)⟩
  · rw [if_neg hz] at e1 e2 e3
    rw [← hf] at e2
    have e3 : G (mkT t.first (sumV t u)) = madeS (t.first + bef) (linL N c o m (norm (sumV t u))) := e3
    have g1 : ∀ V : List (Int × Bool), Bd 40000 V → ∀ i : Nat, i < m → ((linL N c o m V).getD i (0, false)).1.natAbs ≤ 536870912 := by
      intro V hV i hi
      rw [linL_get _ _ _ _ _ _ hi]
      exact Nat.le_trans (lin_bound hC hV i) hN
    have g2 : ∀ V : List (Int × Bool), Bd 40000 V → (linL N c o m V).any badS = false := by
      intro V hV
      refine bd_good (M := 536870912) (by decide) fun i hi => g1 V hV i (by rwa [linL_len] at hi)
    rw [madeS_mk (g2 _ b1)] at e1
    rw [madeS_mk (g2 _ b2)] at e2
    rw [madeS_mk (g2 _ h3)] at e3
    have l1 := mkT_len (t.first + bef) (linL N c o m (valuesS t.vals t.holes))
    have l2 := mkT_len (t.first + bef) (linL N c o m (valuesS u.vals u.holes))
    have l3 := mkT_len (t.first + bef) (linL N c o m (norm (sumV t u)))
    rw [linL_len] at l1 l2 l3
    refine ⟨by rw [e1, e2, e3]; dsimp only; omega, .inr (by
      rw [e1, e2, e3]
      refine ⟨rfl, rfl, rfl, ?_⟩
      have f0 := ok.f0
      rw [SumS_ok (mkT_valid (g2 _ b1) (by omega) (by rw [linL_len]; omega) (by rw [linL_len]; omega)) (mkT_valid (g2 _ b2) (by omega) (by rw [linL_len]; omega) (by rw [linL_len]; omega))]
      refine sum_mk (m := m) (M := 536870912) (linL_len _ _ _ _ _) (linL_len _ _ _ _ _) (linL_len _ _ _ _ _) (Nat.le_refl _) (g1 _ b1) (g1 _ b2) fun i hi => ?_
      rw [linL_get _ _ _ _ _ _ hi, linL_get _ _ _ _ _ _ hi, linL_get _ _ _ _ _ _ hi]
      exact lin_sum (n := t.vals.length) (fun k hk => by have := hm hz k hk; omega) h4)⟩



theorem chord_zero {b a : Int} (h : 1 ≤ b) (h2 : b ≤ 32) (h3 : 1 ≤ a) (h4 : a ≤ 32) : chordS b a = 0 := by
  unfold chordS
  rw [firstS_eq]
  intro x hx
  simp only [List.mem_cons, List.not_mem_nil, or_false] at hx
  rcases hx with rfl | rfl <;> rw [withinS_eq] <;> omega

/-- The three functions as sums at fixed distances. -/
def versC (b a : Int) (k : Nat) : Int := match k with | 0 => b + a | 1 => -a | _ => -b
def versO (b a : Int) (k : Nat) : Nat := match k with | 0 => b.toNat | 1 => 0 | _ => (b + a).toNat
theorem lin_vers (b a : Int) (V : List (Int × Bool)) (i : Nat) (hb : 1 ≤ b) (ha : 1 ≤ a) : wsum V (versW b a) 1 i = lin 3 (versC b a) (versO b a) V i := by
  rw [wsum_vers _ _ _ _ hb ha]
  simp [lin, Sg, Al, versC, versO]
theorem vers_lin {b a : Int} {x : Tr} (hb : 1 ≤ b) (hb2 : b ≤ 32) (ha : 1 ≤ a) (ha2 : a ≤ 32) (hx : traceS x = 0) :
    VersinesS b a x = if ((x.vals.length : Int) - b - a).toNat = 0 then (⟨0, [], []⟩, 16) else madeS (x.first + b) (linL 3 (versC b a) (versO b a) ((x.vals.length : Int) - b - a).toNat (valuesS x.vals x.holes)) := by
  rw [VersinesS_ok (chord_zero hb hb2 ha ha2) hx]
  show summedS _ _ _ _ _ _ = _
  unfold summedS
  rw [summedL_len, valuesS_len]
  have e : summedL (valuesS x.vals x.holes) (versW b a) b a 1 = linL 3 (versC b a) (versO b a) ((x.vals.length : Int) - b - a).toNat (valuesS x.vals x.holes) := by
    unfold summedL linL
    rw [valuesS_len]
    exact List.map_congr_left fun i _ => lin_vers b a _ i hb ha
  rw [e]
theorem smooth_lin {h : Int} {x : Tr} (h0 : 1 ≤ h) (h1 : h ≤ 32) (hx : traceS x = 0) :
    SmoothedS x h = if ((x.vals.length : Int) - h - h).toNat = 0 then (⟨0, [], []⟩, 16) else madeS (x.first + h) (linL (2 * h + 1).toNat (fun k => (onesW (2 * h + 1).toNat 1).getD k 0) (fun k => k) ((x.vals.length : Int) - h - h).toNat (valuesS x.vals x.holes)) := by
  have e0 : firstS [traceS x, withinS h 0 64] = 0 := first2_zero.2 ⟨hx, (withinS_eq _ _ _).2 (by omega)⟩
  unfold SmoothedS
  rw [if_neg (by rw [e0]; decide), smoothed_same _ _ (by omega)]
  unfold RSmoothedS summedS
  rw [summedL_len, valuesS_len]
  have e : summedL (valuesS x.vals x.holes) (onesW (2 * h + 1).toNat 1) h h 1 = linL (2 * h + 1).toNat (fun k => (onesW (2 * h + 1).toNat 1).getD k 0) (fun k => k) ((x.vals.length : Int) - h - h).toNat (valuesS x.vals x.holes) := by
    unfold summedL linL
    rw [valuesS_len]
    refine List.map_congr_left fun i _ => ?_
    rw [wsum_eq _ _ _ _ (fun k hk => by simp [onesW] at hk ⊢; simp [hk])]
    unfold lin
    have hl : (onesW (2 * h + 1).toNat 1).length = (2 * h + 1).toNat := by simp [onesW]
    rw [hl]
    have ei : ∀ k : Nat, ((i : Int) + (k : Int) * 1).toNat = i + k := fun k => by omega
    simp only [ei]
  rw [e]
theorem band_lin {h : Int} {x : Tr} (h0 : 1 ≤ h) (h1 : h ≤ 32) (hx : traceS x = 0) :
    BandS x (h - 1) h = if ((x.vals.length : Int) - h - h).toNat = 0 then (⟨0, [], []⟩, 16) else madeS (x.first + h) (linL (2 * h + 1).toNat (fun k => (bandW (h - 1) h).getD k 0) (fun k => k) ((x.vals.length : Int) - h - h).toNat (valuesS x.vals x.holes)) := by
  have e0 : firstS [traceS x, withinS (h - 1) 0 64, withinS h 0 64, whenS (decide (h ≤ h - 1)) 11] = 0 := by
    rw [firstS_eq]
    intro y hy
    simp only [List.mem_cons, List.not_mem_nil, or_false] at hy
    rcases hy with rfl | rfl | rfl | rfl
    · exact hx
    · rw [withinS_eq]; omega
    · rw [withinS_eq]; omega
    · rw [whenS_eq _ _ (by decide), decide_eq_false_iff_not]; omega
  unfold BandS
  rw [if_neg (by rw [e0]; decide), band_same _ _ _ (by omega) (by omega)]
  unfold RBandS
  have e : bandL (valuesS x.vals x.holes) (bandW (h - 1) h) h = linL (2 * h + 1).toNat (fun k => (bandW (h - 1) h).getD k 0) (fun k => k) ((x.vals.length : Int) - h - h).toNat (valuesS x.vals x.holes) := by
    unfold bandL linL
    rw [valuesS_len]
    refine List.map_congr_left fun i _ => ?_
    unfold bsum
    rw [bandW_len]
    have hf := fold_sum (fun k => (bandW (h - 1) h).getD k 0) (fun k => (valuesS x.vals x.holes).getD (i + k) (0, false)) (0, true) (2 * h + 1).toNat
    have hb : (List.range (2 * h + 1).toNat).foldl (bstep (valuesS x.vals x.holes) (bandW (h - 1) h) i) (0, true) = _ := hf
    rw [hb]
    unfold lin
    simp
  rw [e, linL_len]

theorem bandW_small (h : Int) (h0 : 1 ≤ h) (h1 : h ≤ 32) (k : Nat) : ((bandW (h - 1) h).getD k 0).natAbs ≤ 128 := by
  unfold bandW
  rw [List.getD_eq_getElem?_getD, List.getElem?_map]
  by_cases hk : k < (2 * h + 1).toNat
  · rw [List.getElem?_range hk]
    simp only [Option.map_some, Option.getD_some]
    split <;> omega
  · rw [List.getElem?_eq_none (by simp; omega)]
    exact Nat.zero_le _
theorem onesW_small2 (n k : Nat) : ((onesW n 1).getD k 0).natAbs ≤ 1 := by
  unfold onesW
  rw [List.getD_eq_getElem?_getD, List.getElem?_replicate]
  split <;> simp

/-- Reversed readings. -/
theorem getD_reverse {α : Type} (l : List α) (d : α) (j : Nat) (h : j < l.length) : l.reverse.getD j d = l.getD (l.length - 1 - j) d := by
  rw [List.getD_eq_getElem?_getD, List.getD_eq_getElem?_getD, List.getElem?_reverse h]
theorem vers_reverse (b a : Int) (V : List (Int × Bool)) (m : Nat) (hb : 1 ≤ b) (ha : 1 ≤ a) (hm : m = ((V.length : Int) - b - a).toNat) :
    linL 3 (versC a b) (versO a b) m V.reverse = (linL 3 (versC b a) (versO b a) m V).reverse := by
  refine List.ext_getElem? fun i => ?_
  by_cases hi : i < m
  · have e1 := linL_get 3 (versC a b) (versO a b) m V.reverse i hi
    have e2 := getD_reverse (linL 3 (versC b a) (versO b a) m V) (0, false) i (by rw [linL_len]; exact hi)
    rw [linL_len, linL_get _ _ _ _ _ _ (by omega)] at e2
    have e3 : lin 3 (versC a b) (versO a b) V.reverse i = lin 3 (versC b a) (versO b a) V (m - 1 - i) := by
      rw [← lin_vers _ _ _ _ ha hb, ← lin_vers _ _ _ _ hb ha, wsum_vers _ _ _ _ ha hb, wsum_vers _ _ _ _ hb ha]
      rw [getD_reverse _ _ _ (by omega), getD_reverse _ _ _ (by omega), getD_reverse _ _ _ (by omega)]
      have i1 : V.length - 1 - (i + a.toNat) = m - 1 - i + b.toNat := by omega
      have i2 : V.length - 1 - i = m - 1 - i + (b + a).toNat := by omega
      have i3 : V.length - 1 - (i + (a + b).toNat) = m - 1 - i := by omega
      rw [i1, i2, i3, Int.add_comm a b]
      refine Prod.ext ?_ ?_
      · show _ + _ + _ = _ + _ + _
        omega
      · show (_ && _ && _) = (_ && _ && _)
        rw [Bool.and_assoc, Bool.and_comm (V.getD _ _).2 (V.getD (m - 1 - i) _).2, ← Bool.and_assoc]
    rw [List.getElem?_eq_getElem (by rw [linL_len]; exact hi), List.getElem?_eq_getElem (by rw [List.length_reverse, linL_len]; exact hi)]
    rw [List.getD_eq_getElem?_getD, List.getElem?_eq_getElem (by rw [linL_len]; exact hi), Option.getD_some] at e1
    rw [List.getD_eq_getElem?_getD, List.getElem?_eq_getElem (by rw [List.length_reverse, linL_len]; exact hi), Option.getD_some] at e2
    rw [e1, e2, e3]
  · rw [List.getElem?_eq_none (by rw [linL_len]; omega), List.getElem?_eq_none (by rw [List.length_reverse, linL_len]; omega)]

/-- The straight line of the law. -/
def lineL (n0 n1 : Int) (m : Nat) : List Int := (List.range m).map fun (i : Nat) => n0 + n1 * (i : Int)
theorem lineL_len (n0 n1 : Int) (m : Nat) : (lineL n0 n1 m).length = m := by simp [lineL]
theorem lineL_succ (n0 n1 : Int) (m : Nat) : lineL n0 n1 (m + 1) = lineL n0 n1 m ++ [n0 + n1 * (m : Int)] := by simp [lineL, List.range_succ]
def flatB (h : Nat) : Bool := decide (Sg (2 * h + 3) (fun k => (bandW (h : Int) ((h : Int) + 1)).getD k 0) = 0) && decide (Sg (2 * h + 3) (fun k => (bandW (h : Int) ((h : Int) + 1)).getD k 0 * (k : Int)) = 0)
set_option maxRecDepth 100000 in
theorem flat_all : (List.range 32).all flatB = true := by kernel_rfl
theorem flat_lin {h n0 n1 : Int} (h0 : 1 ≤ h) (h1 : h ≤ 32) (i : Nat) (hi : i < 3) :
    lin (2 * h + 1).toNat (fun k => (bandW (h - 1) h).getD k 0) (fun k => k) (valuesS (lineL n0 n1 (2 * h + 3).toNat) []) i = (0, true) := by
  have hf := List.all_eq_true.1 flat_all (h - 1).toNat (List.mem_range.2 (by omega))
  have e1 : (((h - 1).toNat : Nat) : Int) = h - 1 := by omega
  have e2 : h - 1 + 1 = h := by omega
  have e3 : 2 * (h - 1).toNat + 3 = (2 * h + 1).toNat := by omega
  unfold flatB at hf
  rw [e1, e2, e3, Bool.and_eq_true, decide_eq_true_eq, decide_eq_true_eq] at hf
  obtain ⟨f1, f2⟩ := hf
  have hv : ∀ k : Nat, k < (2 * h + 1).toNat → (valuesS (lineL n0 n1 (2 * h + 3).toNat) []).getD (i + k) (0, false) = (n0 + n1 * ((i + k : Nat) : Int), true) := by
    intro k hk
    have hj : i + k < (2 * h + 3).toNat := by omega
    rw [valuesS_get _ _ _ (by rw [lineL_len]; exact hj), knownB_nil]
    simp [lineL, hj]
  unfold lin
  refine Prod.ext ?_ ?_
  · show Sg _ _ = 0
    rw [Sg_congr (h := fun k => (bandW (h - 1) h).getD k 0 * (n0 + n1 * (i : Int)) + (bandW (h - 1) h).getD k 0 * (k : Int) * n1) _ fun k hk => ?_]
    · rw [Sg_add, Sg_mul, Sg_mul (g := fun k => (bandW (h - 1) h).getD k 0 * (k : Int)), f1, f2]; simp
    · dsimp only
      rw [hv k hk]
      dsimp only
      rw [Int.mul_assoc, ← Int.mul_add]
      congr 1
      rw [Int.natCast_add, Int.mul_add, Int.mul_comm (k : Int) n1]
      omega
  · exact Al_of _ _ fun k hk => by rw [hv k hk]
theorem flat_ok {h n0 n1 : Int} (h0 : 1 ≤ h) (h1 : h ≤ 32) (a0 : -128 ≤ n0) (a1 : n0 ≤ 127) (b0 : -128 ≤ n1) (b1 : n1 ≤ 127) : BandS ⟨5, lineL n0 n1 (2 * h + 3).toNat, []⟩ (h - 1) h = (⟨5 + h, [0, 0, 0], []⟩, 0) := by
  have hv : traceS ⟨5, lineL n0 n1 (2 * h + 3).toNat, []⟩ = 0 := by
    refine traceS_line (by decide) (by rw [lineL_len]; omega) (by rw [lineL_len]; omega) fun x hx => ?_
    obtain ⟨i, hi, rfl⟩ := List.mem_map.1 hx
    have hi := List.mem_range.1 hi
    have := mulB (x := n1) (y := (i : Int)) (c := 128) (d := 67) (by omega) (by omega)
    omega
  rw [band_lin h0 h1 hv]
  dsimp only
  rw [lineL_len]
  have e : (((2 * h + 3).toNat : Int) - h - h).toNat = 3 := by omega
  rw [e, if_neg (by decide)]
  have e2 : linL (2 * h + 1).toNat (fun k => (bandW (h - 1) h).getD k 0) (fun k => k) 3 (valuesS (lineL n0 n1 (2 * h + 3).toNat) []) = [(0, true), (0, true), (0, true)] := by
    show [_, _, _] = _
    rw [flat_lin h0 h1 0 (by decide), flat_lin h0 h1 1 (by decide), flat_lin h0 h1 2 (by decide)]
  rw [e2]
  rfl

/-- What the law asks of the reversed readings. -/
structure TurnOk (b a : Int) (t : Tr) : Prop where
  a2 : (ReversedS t 1000000).2 = 0
  al : (ReversedS t 1000000).1.vals.length ≤ 60 ∧ (ReversedS t 1000000).1.holes.length ≤ 60
  back : ReversedS (ReversedS t 1000000).1 1000000 = (t, 0)
  v2 : (VersinesS b a t).2 = 0
  vl : (VersinesS b a t).1.vals.length ≤ 60 ∧ (VersinesS b a t).1.holes.length ≤ 60
  w2 : (VersinesS a b (ReversedS t 1000000).1).2 = 0
  wl : (VersinesS a b (ReversedS t 1000000).1).1.vals.length ≤ 60 ∧ (VersinesS a b (ReversedS t 1000000).1).1.holes.length ≤ 60
  same : ReversedS (VersinesS b a t).1 1000000 = ((VersinesS a b (ReversedS t 1000000).1).1, 0)
theorem ReversedS_ok {t : Tr} {p : Int} (h : traceS t = 0) (p0 : 0 ≤ p) (p1 : p ≤ 100000000) : ReversedS t p = RReversedS t p := by
  unfold ReversedS
  rw [if_neg]
  rw [first2_zero.2 ⟨h, (withinS_eq _ _ _).2 ⟨p0, p1⟩⟩]; decide
theorem turn_ok {b a : Int} {t : Tr} (hb : 1 ≤ b) (hb2 : b ≤ 32) (ha : 1 ≤ a) (ha2 : a ≤ 32) (ht : traceS t = 0) (hl : t.vals.length ≤ 60) (hp : t.first ≤ 1000000) (hn : b + a < t.vals.length) (st : ∀ x ∈ t.vals, x.natAbs ≤ 20000) : TurnOk b a t := by
  have ok := traceS_ok ht
  have f0 := ok.f0
  have bV : Bd 40000 (valuesS t.vals t.holes) := bd_values fun x hx => by have := st x hx; omega
  have gV : (valuesS t.vals t.holes).any badS = false := bd_good (M := 40000) (by decide) fun i _ => bV i
  have nV := norm_values ht
  have sV := mkT_self ht
  have lV := valuesS_len t.vals t.holes
  generalize hVd : valuesS t.vals t.holes = V at *
  have gR : V.reverse.any badS = false := by rw [List.any_reverse]; exact gV
  have eA : ReversedS t 1000000 = (mkT (2000001 - t.first - V.length) V.reverse, 0) := by
    rw [ReversedS_ok ht (by decide) (by decide)]
    have := reversed_mk (f := t.first) (p := 1000000) gV (by omega) (by omega)
    rw [sV] at this
    exact this
  have vA : traceS (mkT (2000001 - t.first - V.length) V.reverse) = 0 := mkT_valid gR (by omega) (by rw [List.length_reverse]; omega) (by rw [List.length_reverse]; omega)
  have lA := mkT_len (2000001 - t.first - V.length) V.reverse
  rw [List.length_reverse] at lA
  have eB : ReversedS (mkT (2000001 - t.first - V.length) V.reverse) 1000000 = (t, 0) := by
    rw [ReversedS_ok vA (by decide) (by decide), reversed_mk gR (by rw [List.length_reverse]; omega) (by omega), List.reverse_reverse, List.length_reverse]
    rw [show (2 * 1000000 + 1 - (2000001 - t.first - (V.length : Int)) - (V.length : Int)) = t.first by omega, sV]
  have hC : ∀ (b a : Int), 1 ≤ b → b ≤ 32 → 1 ≤ a → a ≤ 32 → ∀ k : Nat, k < 3 → (versC b a k).natAbs ≤ 64 := by
    intro b a h1 h2 h3 h4 k hk
    obtain rfl | rfl | rfl : k = 0 ∨ k = 1 ∨ k = 2 := by omega
    all_goals simp only [versC]; omega
  have gU : (linL 3 (versC b a) (versO b a) ((V.length : Int) - b - a).toNat V).any badS = false := by
    refine bd_good (M := 3 * (64 * 40000)) (by decide) fun i hi => ?_
    rw [linL_len] at hi
    rw [linL_get _ _ _ _ _ _ hi]
    exact lin_bound (hC b a hb hb2 ha ha2) bV i
  have eV : VersinesS b a t = (mkT (t.first + b) (linL 3 (versC b a) (versO b a) ((V.length : Int) - b - a).toNat V), 0) := by
    rw [vers_lin hb hb2 ha ha2 ht, ← lV, hVd, if_neg (by omega), madeS_mk gU]
  have lU := mkT_len (t.first + b) (linL 3 (versC b a) (versO b a) ((V.length : Int) - b - a).toNat V)
  rw [linL_len] at lU
  have vU : traceS (mkT (t.first + b) (linL 3 (versC b a) (versO b a) ((V.length : Int) - b - a).toNat V)) = 0 := mkT_valid gU (by omega) (by rw [linL_len]; omega) (by rw [linL_len]; omega)
  have eW : VersinesS a b (mkT (2000001 - t.first - V.length) V.reverse) = (mkT (2000001 - t.first - V.length + a) (linL 3 (versC b a) (versO b a) ((V.length : Int) - b - a).toNat V).reverse, 0) := by
    rw [vers_lin ha ha2 hb hb2 vA, mkT_values, lA.1, ← norm_reverse, nV]
    rw [show ((V.length : Int) - a - b).toNat = ((V.length : Int) - b - a).toNat by omega, if_neg (by omega), vers_reverse b a V _ hb ha rfl]
    rw [madeS_mk (by rw [List.any_reverse]; exact gU)]
    rfl
  have lW := mkT_len (2000001 - t.first - V.length + a) (linL 3 (versC b a) (versO b a) ((V.length : Int) - b - a).toNat V).reverse
  rw [List.length_reverse, linL_len] at lW
  have eX : ReversedS (mkT (t.first + b) (linL 3 (versC b a) (versO b a) ((V.length : Int) - b - a).toNat V)) 1000000 = (mkT (2000001 - t.first - V.length + a) (linL 3 (versC b a) (versO b a) ((V.length : Int) - b - a).toNat V).reverse, 0) := by
    rw [ReversedS_ok vU (by decide) (by decide), reversed_mk gU (by rw [linL_len]; omega) (by omega), linL_len]
    rw [show (2 * 1000000 + 1 - (t.first + b) - ((((V.length : Int) - b - a).toNat : Nat) : Int)) = 2000001 - t.first - (V.length : Int) + a by omega]
  constructor
  · rw [eA]
  · rw [eA]; dsimp only; omega
  · rw [eA]; exact eB
  · rw [eV]
  · rw [eV]; dsimp only; omega
  · rw [eA]; dsimp only; rw [eW]
  · rw [eA]; dsimp only; rw [eW]; dsimp only; omega
  · rw [eA, eV]; dsimp only; rw [eW, eX]

theorem folds_ok {b a : Int} {t u : Tr} (hb : 1 ≤ b) (hb2 : b ≤ 32) (ha : 1 ≤ a) (ha2 : a ≤ 32) (ht : traceS t = 0) (hu : traceS u = 0) (hf : t.first = u.first) (hn : t.vals.length = u.vals.length) (hl : t.vals.length ≤ 60) (hp : t.first ≤ 1000000) (st : ∀ x ∈ t.vals, x.natAbs ≤ 20000) (su : ∀ x ∈ u.vals, x.natAbs ≤ 20000) (hc : b + a < t.vals.length) :
    FoldOk (VersinesS b a) t u (SumS t u).1 ∧ (VersinesS b a u).2 = 0 ∧ (VersinesS b a (SumS t u).1).2 = 0 ∧ FoldOk (fun x => SmoothedS x b) t u (SumS t u).1 ∧ FoldOk (fun x => BandS x (b - 1) b) t u (SumS t u).1 := by
  have h1 : FoldOk (VersinesS b a) t u (SumS t u).1 := by
    refine fold_law ht hu hf hn hl hp st su (G := VersinesS b a) (bef := b) (m := ((t.vals.length : Int) - b - a).toNat) (C := 64) (by omega) (by omega) (fun x hx hxl => by rw [vers_lin hb hb2 ha ha2 hx, hxl]) ?_ (by omega) ?_ (by decide)
    · intro _ k hk
      obtain rfl | rfl | rfl : k = 0 ∨ k = 1 ∨ k = 2 := by omega
      all_goals simp only [versO]; omega
    · intro k hk
      obtain rfl | rfl | rfl : k = 0 ∨ k = 1 ∨ k = 2 := by omega
      all_goals simp only [versC]; omega
  have v0 : (VersinesS b a t).2 = 0 := (turn_ok hb hb2 ha ha2 ht hl hp hc st).v2
  have h2 : (VersinesS b a u).2 = 0 ∧ (VersinesS b a (SumS t u).1).2 = 0 := by
    rcases h1.says with ⟨e, _⟩ | ⟨_, e1, e2, _⟩
    · rw [v0] at e; exact absurd e (by decide)
    · exact ⟨e1, e2⟩
  refine ⟨h1, h2.1, h2.2, ?_, ?_⟩
  · refine fold_law ht hu hf hn hl hp st su (bef := b) (m := ((t.vals.length : Int) - b - b).toNat) (C := 1) (by omega) (by omega) (fun x hx hxl => by rw [smooth_lin hb hb2 hx, hxl]) ?_ (by omega) (fun k _ => onesW_small2 _ k) (by omega)
    intro hz k hk
    omega
  · refine fold_law ht hu hf hn hl hp st su (bef := b) (m := ((t.vals.length : Int) - b - b).toNat) (C := 128) (by omega) (by omega) (fun x hx hxl => by rw [band_lin hb hb2 hx, hxl]) ?_ (by omega) (fun k _ => bandW_small b hb hb2 k) (by omega)
    intro hz k hk
    omega

end Go.Proofs.YtbpffadffbgloaaDoor
