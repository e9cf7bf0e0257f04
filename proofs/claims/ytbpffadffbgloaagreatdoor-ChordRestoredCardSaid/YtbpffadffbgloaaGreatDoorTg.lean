/- What a made trace holds: its values, its holes, that it is valid. No program in sight. -/
import Derived.Test.YtbpffadffbgloaaGreatDoorRk
set_option linter.unusedVariables false
set_option linter.unusedSimpArgs false
namespace Go.Proofs.YtbpffadffbgloaaGreatDoor

theorem addAll_vals (l : List (Int × Bool)) : (addAll l).1 = l.map fun x => if x.2 then x.1 else 0 := by
  suffices h : ∀ m : List (Int × Bool), (addAll m.reverse).1 = m.reverse.map fun x => if x.2 then x.1 else 0 by
    have := h l.reverse
    rwa [List.reverse_reverse] at this
  intro m
  induction m with
  | nil => rfl
  | cons q m ih => rw [List.reverse_cons, addAll_snoc, List.map_append]; simp [addS, ih]

theorem knownB_nil (i : Int) : knownB [] i = true := rfl
theorem knownB_app (a b : List (Int × Int)) (i : Int) : knownB (a ++ b) i = (knownB a i && knownB b i) := by
  unfold knownB; rw [List.any_append, Bool.not_or]
theorem knownB_one (p : Int × Int) (i : Int) : knownB [p] i = !(decide (p.1 ≤ i) && decide (i < p.2)) := by
  unfold knownB; simp
theorem knownB_far {n : Nat} {hs : List (Int × Int)} (h : HolesOk n hs) {i : Int} (hi : (n : Int) ≤ i) : knownB hs i = true := by
  unfold knownB
  rw [Bool.not_eq_true', List.any_eq_false]
  intro p hp
  have := h p hp
  simp only [Bool.and_eq_true, decide_eq_true_eq]
  omega

/-- Holes that lie as they may: in order, apart, within. -/
def HApart (hs : List (Int × Int)) : Prop := hs.Pairwise fun p q => p.2 < q.1
theorem holesAdd_last (hs : List (Int × Int)) (p : Int × Int) (i : Nat) (h : p.2 = i) : holesAdd (hs ++ [p]) i = hs ++ [(p.1, (i : Int) + 1)] := by
  simp [holesAdd, h]
theorem holesAdd_more (hs : List (Int × Int)) (p : Int × Int) (i : Nat) (h : p.2 ≠ i) : holesAdd (hs ++ [p]) i = (hs ++ [p]) ++ [((i : Int), (i : Int) + 1)] := by
  simp [holesAdd, h]
theorem holesAdd_inv {n : Nat} {hs : List (Int × Int)} (h1 : HolesOk n hs) (h2 : HApart hs) :
    HolesOk (n + 1) (holesAdd hs n) ∧ HApart (holesAdd hs n) ∧ (∀ i : Int, i < n → knownB (holesAdd hs n) i = knownB hs i) ∧ knownB (holesAdd hs n) n = false := by
  have one : knownB [((n : Int), (n : Int) + 1)] n = false := by rw [knownB_one]; simp; omega
  rcases List.eq_nil_or_concat hs with rfl | ⟨l, p, rfl⟩
  · refine ⟨?_, ?_, ?_, one⟩
    · intro q hq
      rcases List.mem_singleton.1 hq with rfl
      dsimp only; omega
    · exact List.pairwise_singleton _ _
    · intro i hi
      show knownB [((n : Int), (n : Int) + 1)] i = true
      rw [knownB_one]; simp; omega
  · rw [List.concat_eq_append] at h1 h2 ⊢
    have hp := h1 p (by simp)
    have hl : ∀ q ∈ l, 0 ≤ q.1 ∧ q.1 < q.2 ∧ q.2 ≤ (n : Int) := fun q hq => h1 q (by simp [hq])
    obtain ⟨a1, _, a3⟩ := List.pairwise_append.1 h2
    have a4 : ∀ q ∈ l, q.2 < p.1 := fun q hq => a3 q hq p (by simp)
    by_cases he : p.2 = n
    · rw [holesAdd_last _ _ _ he]
      refine ⟨?_, ?_, ?_, ?_⟩
      · intro q hq
        rcases List.mem_append.1 hq with hq | hq
        · have := hl q hq; omega
        · rcases List.mem_singleton.1 hq with rfl
          dsimp only; omega
      · refine List.pairwise_append.2 ⟨a1, List.pairwise_singleton _ _, fun q hq r hr => ?_⟩
        rcases List.mem_singleton.1 hr with rfl
        exact a4 q hq
      · intro i hi
        rw [knownB_app, knownB_app, knownB_one, knownB_one, he]
        have e1 : decide (i < (n : Int) + 1) = true := decide_eq_true (by omega)
        have e2 : decide (i < (n : Int)) = true := decide_eq_true hi
        simp only [e1, e2]
      · rw [knownB_app, knownB_one]
        have e1 : decide (p.1 ≤ (n : Int)) = true := decide_eq_true (by omega)
        have e2 : decide ((n : Int) < (n : Int) + 1) = true := decide_eq_true (by omega)
        simp only [e1, e2]
        simp
    · rw [holesAdd_more _ _ _ he]
      have hlt : ∀ q ∈ l ++ [p], q.2 < (n : Int) := by
        intro q hq
        rcases List.mem_append.1 hq with hq | hq
        · have := a4 q hq; omega
        · rcases List.mem_singleton.1 hq with rfl
          omega
      refine ⟨?_, ?_, ?_, ?_⟩
      · intro q hq
        rcases List.mem_append.1 hq with hq | hq
        · have := h1 q hq; omega
        · rcases List.mem_singleton.1 hq with rfl
          dsimp only; omega
      · refine List.pairwise_append.2 ⟨h2, List.pairwise_singleton _ _, fun q hq r hr => ?_⟩
        rcases List.mem_singleton.1 hr with rfl
        exact hlt q hq
      · intro i hi
        rw [knownB_app _ [_], knownB_one]
        have e1 : decide ((n : Int) ≤ i) = false := decide_eq_false (by omega)
        simp only [e1]
        simp
      · rw [knownB_app _ [_], one, Bool.and_false]

theorem addAll_inv (l : List (Int × Bool)) : HolesOk l.length (addAll l).2 ∧ HApart (addAll l).2 ∧ ∀ i : Nat, i < l.length → knownB (addAll l).2 i = (l.getD i (0, false)).2 := by
  suffices h : ∀ m : List (Int × Bool), HolesOk m.reverse.length (addAll m.reverse).2 ∧ HApart (addAll m.reverse).2 ∧ ∀ i : Nat, i < m.reverse.length → knownB (addAll m.reverse).2 i = (m.reverse.getD i (0, false)).2 by
    have := h l.reverse
    rwa [List.reverse_reverse] at this
  intro m
  induction m with
  | nil => exact ⟨fun p hp => (by cases hp), List.Pairwise.nil, fun i hi => absurd hi (by simp)⟩
  | cons x m ih =>
    rw [List.reverse_cons, addAll_snoc]
    generalize m.reverse = k at *
    obtain ⟨i1, i2, i3⟩ := ih
    have hlen := (addAll_len k).1
    have hget : ∀ i : Nat, i < k.length → (k ++ [x]).getD i (0, false) = k.getD i (0, false) := by
      intro i hi
      rw [List.getD_eq_getElem?_getD, List.getElem?_append_left hi, ← List.getD_eq_getElem?_getD]
    have hend : (k ++ [x]).getD k.length (0, false) = x := by simp [List.getD_eq_getElem?_getD]
    by_cases hx : x.2 = true
    · have e : (addS (addAll k) x).2 = (addAll k).2 := by simp [addS, hx]
      rw [e]
      refine ⟨fun p hp => ?_, i2, fun i hi => ?_⟩
      · have := i1 p hp
        simp only [List.length_append, List.length_cons, List.length_nil]
        omega
      · simp only [List.length_append, List.length_cons, List.length_nil] at hi
        by_cases hi2 : i < k.length
        · rw [hget i hi2]; exact i3 i hi2
        · obtain rfl : i = k.length := by omega
          rw [hend, hx]
          exact knownB_far i1 (Int.le_refl _)
    · have hx : x.2 = false := by simpa using hx
      have e : (addS (addAll k) x).2 = holesAdd (addAll k).2 k.length := by simp [addS, hx, hlen]
      rw [e]
      obtain ⟨j1, j2, j3, j4⟩ := holesAdd_inv i1 i2
      refine ⟨by simpa using j1, j2, fun i hi => ?_⟩
      simp only [List.length_append, List.length_cons, List.length_nil] at hi
      by_cases hi2 : i < k.length
      · rw [hget i hi2, j3 _ (by omega)]; exact i3 i hi2
      · obtain rfl : i = k.length := by omega
        rw [hend, hx]; exact j4

theorem holesS_zero (n : Nat) : ∀ (hs : List (Int × Int)) (last : Int), HolesOk n hs → HApart hs → (∀ p ∈ hs.head?, last < p.1) → holesS n last hs = 0
  | [], _, _, _, _ => rfl
  | h :: l, last, h1, h2, h3 => by
    have a := h1 h List.mem_cons_self
    have b := h3 h rfl
    have e : holeS n last h = 0 := by
      unfold holeS
      rw [firstS_eq]
      intro x hx
      simp only [List.mem_cons, List.not_mem_nil, or_false] at hx
      rcases hx with rfl | rfl
      · rw [spanS, whenS_eq _ _ (by decide)]
        simp only [Bool.or_eq_false_iff, decide_eq_false_iff_not]; omega
      · rw [whenS_eq _ _ (by decide)]
        simp only [decide_eq_false_iff_not]; omega
    unfold holesS
    rw [if_neg (by rw [e]; decide)]
    obtain ⟨c1, c2⟩ := List.pairwise_cons.1 h2
    refine holesS_zero n l h.2 (fun p hp => h1 p (List.mem_cons_of_mem _ hp)) c2 fun p hp => ?_
    exact c1 p (List.mem_of_mem_head? hp)

/-- A made trace without a value out of range is valid. -/
theorem made_valid {f : Int} {l : List (Int × Bool)} (hb : l.any badS = false) (f0 : 0 ≤ f) (f1 : f + l.length ≤ 100000000) (hl : l.length ≤ 4096) : traceS ⟨f, (addAll l).1, (addAll l).2⟩ = 0 := by
  obtain ⟨i1, i2, i3⟩ := addAll_inv l
  have hlen := (addAll_len l).1
  have hv := addAll_vals l
  have hvb : ∀ x ∈ (addAll l).1, readingS x = 0 := by
    intro x hx
    rw [hv] at hx
    obtain ⟨y, hy, rfl⟩ := List.mem_map.1 hx
    have := List.any_eq_false.1 hb y hy
    unfold badS at this
    by_cases hy2 : y.2 = true
    · rw [if_pos hy2]
      rw [hy2] at this
      simpa using this
    · rw [if_neg hy2]; decide
  have e1 : headS f (addAll l).1 = 0 := by
    unfold headS
    rw [firstS_eq]
    intro x hx
    simp only [List.mem_cons, List.not_mem_nil, or_false] at hx
    rcases hx with rfl | rfl
    · rw [withinS_eq]; omega
    · rw [whenS_eq _ _ (by decide)]; simp only [decide_eq_false_iff_not]; omega
  have e2 : bodyS f (addAll l).1 = 0 := by
    unfold bodyS
    rw [firstS_eq]
    intro x hx
    simp only [List.mem_cons, List.not_mem_nil, or_false] at hx
    rcases hx with rfl | rfl
    · rw [whenS_eq _ _ (by decide)]; simp only [decide_eq_false_iff_not]; omega
    · rw [firstS_eq]
      intro y hy
      obtain ⟨z, hz, rfl⟩ := List.mem_map.1 hy
      exact hvb z hz
  have e3 : holesS (addAll l).1.length (-1) (addAll l).2 = 0 := by
    rw [hlen]
    refine holesS_zero _ _ _ i1 i2 fun p hp => ?_
    have := i1 p (List.mem_of_mem_head? hp)
    omega
  have e4 : formS (addAll l).1 (addAll l).2 = 0 := by
    obtain ⟨q1, q2⟩ := formS_eq (addAll l).1 (addAll l).2 (by rw [hlen]; exact i1)
    rcases q1 with q1 | q1
    · obtain ⟨i, h1, h2, h3⟩ := q2.1 q1
      rw [hlen] at h1
      rw [i3 i h1] at h3
      rw [hv] at h2
      simp only [List.getD_eq_getElem?_getD, List.getElem?_map, List.getElem?_eq_getElem h1, Option.map_some, Option.getD_some] at h2 h3
      rw [if_neg (by rw [h3]; decide)] at h2
      exact absurd rfl h2
    · exact q1
  unfold traceS
  dsimp only
  rw [if_neg (by rw [e1]; decide), if_neg (by rw [e2]; decide), if_neg (by rw [e3]; decide)]
  exact e4
theorem made_get {l : List (Int × Bool)} (i : Nat) (h : i < l.length) : (addAll l).1.getD i 0 = if (l.getD i (0, false)).2 then (l.getD i (0, false)).1 else 0 := by
  rw [addAll_vals]
  simp only [List.getD_eq_getElem?_getD, List.getElem?_map, List.getElem?_eq_getElem h, Option.map_some, Option.getD_some]
/-- The values of a made trace. -/
theorem made_values (l : List (Int × Bool)) : valuesS (addAll l).1 (addAll l).2 = l.map fun x => (if x.2 then x.1 else 0, x.2) := by
  have hlen := (addAll_len l).1
  refine List.ext_getElem? fun i => ?_
  by_cases h : i < l.length
  · have h1 := made_get i h
    have h2 := (addAll_inv l).2.2 i h
    simp only [valuesS, List.getElem?_map, List.getElem?_range (show i < (addAll l).1.length by omega), Option.map_some, h1, h2, List.getElem?_eq_getElem h]
    simp only [List.getD_eq_getElem?_getD, List.getElem?_eq_getElem h, Option.getD_some]
  · rw [List.getElem?_eq_none (by rw [valuesS_len]; omega), List.getElem?_eq_none (by rw [List.length_map]; omega)]

/-- A valid trace has no more holes than values. -/
theorem holesS_count (n : Nat) : ∀ (hs : List (Int × Int)) (last : Int), last ≤ n → holesS n last hs = 0 → (hs.length : Int) + last ≤ n
  | [], last, h0, _ => by simpa using h0
  | h :: l, last, h0, hz => by
    unfold holesS at hz
    have e : holeS n last h = 0 := by
      by_cases e : holeS n last h = 0
      · exact e
      · rw [if_pos e] at hz; exact hz
    rw [if_neg (by rw [e]; decide)] at hz
    unfold holeS at e
    rw [firstS_eq] at e
    have e1 := e (spanS n h) (by simp)
    have e2 := e (whenS (decide (h.1 ≤ last)) 11) (by simp)
    rw [spanS, whenS_eq _ _ (by decide)] at e1
    rw [whenS_eq _ _ (by decide)] at e2
    simp only [Bool.or_eq_false_iff, decide_eq_false_iff_not] at e1 e2
    have ih := holesS_count n l h.2 (by omega) hz
    simp only [List.length_cons]
    omega
theorem holes_count {t : Tr} (h : traceS t = 0) : t.holes.length ≤ t.vals.length + 1 := by
  have e : holesS t.vals.length (-1) t.holes = 0 := by
    unfold traceS at h
    by_cases e1 : headS t.first t.vals = 0
    · rw [if_neg (by rw [e1]; decide)] at h
      by_cases e2 : bodyS t.first t.vals = 0
      · rw [if_neg (by rw [e2]; decide)] at h
        by_cases e3 : holesS t.vals.length (-1) t.holes = 0
        · exact e3
        · rw [if_pos e3] at h; exact absurd h e3
      · rw [if_pos e2] at h; exact absurd h e2
    · rw [if_pos e1] at h; exact absurd h e1
  have := holesS_count t.vals.length t.holes (-1) (by omega) e
  omega

end Go.Proofs.YtbpffadffbgloaaGreatDoor
