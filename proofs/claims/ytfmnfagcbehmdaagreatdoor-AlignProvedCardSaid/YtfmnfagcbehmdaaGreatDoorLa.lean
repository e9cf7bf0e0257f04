/- Chapter 5: tables of a ride: what a table proves; the ride's own proves, bounds by the least cost, and can't be raised. No code is walked here. -/
import Derived.Test.YtfmnfagcbehmdaaGreatDoorKf
import Derived.Test.YtfmnfagcbehmdaaGreatDoorJf
set_option linter.unusedVariables false
set_option linter.unusedSimpArgs false
namespace Go.Proofs.YtfmnfagcbehmdaaGreatDoor
open Go.RowKit Go.Sym

theorem getD_set (l : List Int) (k q : Nat) (v : Int) : (l.set k v).getD q 0 = if q = k ∧ k < l.length then v else l.getD q 0 := by
 rw [List.getD_eq_getElem?_getD, List.getElem?_set]
 by_cases h : k = q
 ·subst h
  by_cases h2 : k < l.length
  ·simp [h2]
  ·simp [h2]
 ·rw [if_neg h, if_neg (by omega), ← List.getD_eq_getElem?_getD]
theorem rowA_char {m s : List Th} {c : Cs} {L : List St} {O : List Int} {i : Nat} : ∀ n, rowA m s c L O i n ≤ c.missed * (stAt L i).p.1 ∧
  (∀ k, k < n → befS (stAt L k) (stAt L i) = true → rowA m s c L O i n ≤ O.getD k 0 + grownS m s c (stAt L k).p (stAt L i).p) ∧
  (rowA m s c L O i n = c.missed * (stAt L i).p.1 ∨ ∃ k, k < n ∧ befS (stAt L k) (stAt L i) = true ∧ rowA m s c L O i n = O.getD k 0 + grownS m s c (stAt L k).p (stAt L i).p)
 | 0 => ⟨Int.le_refl _, fun k hk => absurd hk (Nat.not_lt_zero _), .inl rfl⟩
 | n + 1 => by
  obtain ⟨h1, h2, h3⟩ := rowA_char (m := m) (s := s) (c := c) (L := L) (O := O) (i := i) n
  have h4 : ∀ k, k < n + 1 → k < n ∨ k = n := fun k hk => by omega
  unfold rowA
  split
  ·rename_i hb
   split
   ·rename_i hlt
    refine ⟨by omega, fun k hk hbk => ?_, .inr ⟨n, by omega, hb, rfl⟩⟩
    rcases h4 k hk with h5 | rfl
    ·have := h2 k h5 hbk; omega
    ·exact Int.le_refl _
   ·rename_i hge
    refine ⟨h1, fun k hk hbk => ?_, ?_⟩
    ·rcases h4 k hk with h5 | rfl
     ·exact h2 k h5 hbk
     ·omega
    ·rcases h3 with h3 | ⟨k, hk, h5, h6⟩
     ·exact .inl h3
     ·exact .inr ⟨k, by omega, h5, h6⟩
  ·rename_i hb
   refine ⟨h1, fun k hk hbk => ?_, ?_⟩
   ·rcases h4 k hk with h5 | rfl
    ·exact h2 k h5 hbk
    ·exact absurd hbk hb
   ·rcases h3 with h3 | ⟨k, hk, h5, h6⟩
    ·exact .inl h3
    ·exact .inr ⟨k, by omega, h5, h6⟩
theorem rowA_congr {m s : List Th} {c : Cs} {L : List St} {O O' : List Int} {i : Nat} : ∀ n, (∀ k, k < n → O.getD k 0 = O'.getD k 0) → rowA m s c L O i n = rowA m s c L O' i n
 | 0, _ => rfl
 | n + 1, h => by
  unfold rowA
  rw [rowA_congr n (fun k hk => h k (by omega)), h n (by omega)]
theorem aheadO_stay {m s : List Th} {c : Cs} {L : List St} {i k : Nat} (hk : k < i) : ∀ j, i ≤ j → (aheadO m s c L j).getD k 0 = (aheadO m s c L i).getD k 0
 | 0, h => by omega
 | j + 1, h => by
  by_cases e : i = j + 1
  ·subst e; rfl
  ·have h1 := aheadO_stay (m := m) (s := s) (c := c) (L := L) hk j (by omega)
   show ((aheadO m s c L j).set j _).getD k 0 = _
   rw [getD_set, if_neg (by omega)]
   exact h1
theorem aheadS_at {m s : List Th} {c : Cs} {L : List St} {i : Nat} (hi : i < L.length) : (aheadS m s c L).getD i 0 = rowA m s c L (aheadS m s c L) i i := by
 unfold aheadS
 rw [aheadO_stay (m := m) (s := s) (c := c) (L := L) (Nat.lt_succ_self i) L.length (by omega)]
 show ((aheadO m s c L i).set i _).getD i 0 = _
 rw [getD_set, if_pos ⟨rfl, by rw [aheadO_len]; exact hi⟩]
 exact rowA_congr i fun k hk => (aheadO_stay hk L.length (by omega)).symm

theorem cast_pair {m s : List Th} {p : Int × Int} (h : inS m s p) : p = ((p.1.toNat : Int), (p.2.toNat : Int)) ∧ p.1.toNat < s.length ∧ p.2.toNat < m.length := by
 obtain ⟨⟨h1, h2⟩, h3, h4⟩ := h
 refine ⟨?_, by omega, by omega⟩
 rw [Int.toNat_of_nonneg h1, Int.toNat_of_nonneg h3]
theorem inS_cast {m s : List Th} {i k : Nat} (hi : i < s.length) (hk : k < m.length) : inS m s ((i : Int), (k : Int)) :=
 ⟨⟨by show (0 : Int) ≤ i; omega, by show (i : Int) < _; omega⟩, by show (0 : Int) ≤ k; omega, by show (k : Int) < _; omega⟩
theorem wrF_at {k : Nat} {L : List St} {A : List Int} {i q : Nat} (hq : q < k) (hin : ∀ j, j < L.length → 0 ≤ (stAt L j).p.1 ∧ 0 ≤ (stAt L j).p.2) : ∀ n, n ≤ L.length →
  ((∀ j, j < n → (stAt L j).p ≠ ((i : Int), (q : Int))) ∧ (wrF k L A n i).getD q 0 = -1) ∨ ∃ j, j < n ∧ (stAt L j).p = ((i : Int), (q : Int)) ∧ (wrF k L A n i).getD q 0 = A.getD j 0
 | 0, _ => .inl ⟨fun j hj => absurd hj (Nat.not_lt_zero _), by unfold wrF; simp [List.getD, hq]⟩
 | n + 1, hn => by
  have ih := wrF_at (A := A) (i := i) hq hin n (by omega)
  have e : wrF k L A (n + 1) i = if i = (stAt L n).p.1.toNat then (wrF k L A n i).set (stAt L n).p.2.toNat (A.getD n 0) else wrF k L A n i := rfl
  have hn0 := hin n (by omega)
  have heq : (stAt L n).p = ((i : Int), (q : Int)) ↔ i = (stAt L n).p.1.toNat ∧ q = (stAt L n).p.2.toNat := by
   constructor
   ·intro h; rw [h]; simp
   ·rintro ⟨h1, h2⟩
    refine Prod.ext ?_ ?_
    ·show (stAt L n).p.1 = (i : Int); omega
    ·show (stAt L n).p.2 = (q : Int); omega
  by_cases h : (stAt L n).p = ((i : Int), (q : Int))
  ·refine .inr ⟨n, by omega, h, ?_⟩
   obtain ⟨h1, h2⟩ := heq.1 h
   rw [e, if_pos h1, getD_set, if_pos ⟨h2, by rw [wrF_len]; omega⟩]
  ·have e2 : (wrF k L A (n + 1) i).getD q 0 = (wrF k L A n i).getD q 0 := by
    rw [e]
    split
    ·rename_i h1
     rw [getD_set, if_neg fun h2 => h (heq.2 ⟨h1, h2.1⟩)]
    ·rfl
   rw [e2]
   rcases ih with ⟨h1, h2⟩ | ⟨j, hj, h1, h2⟩
   ·exact .inl ⟨fun j hj => by rcases Nat.lt_succ_iff_lt_or_eq.1 hj with h3 | rfl; exact h1 j h3; exact h, h2⟩
   ·exact .inr ⟨j, by omega, h1, h2⟩
def cellOk (m s : List Th) (c : Cs) (R : Nat → List Int) (i k : Nat) : Prop :=
 ((R i).getD k 0 < 0 ↔ alikeS m s ((i : Int), (k : Int)) = false) ∧ (R i).getD k 0 ≤ c.missed * i ∧ ((R i).getD k 0 ≥ 0 → ∀ p q, p < i → q < k → (R p).getD q 0 ≥ 0 → (R i).getD k 0 ≤ (R p).getD q 0 + grownS m s c ((p : Int), (q : Int)) ((i : Int), (k : Int)))
theorem kindE_iff {m s : List Th} {R : Nat → List Int} {i k : Nat} : kindE m s R i k = true ↔ ((R i).getD k 0 < 0 ↔ alikeS m s ((i : Int), (k : Int)) = false) := by
 unfold kindE
 generalize (R i).getD k 0 = x
 generalize alikeS m s ((i : Int), (k : Int)) = b
 by_cases h : x < 0 <;> cases b <;> simp [h] <;> omega
theorem proves_iff {m s : List Th} {c : Cs} {n : Nat} {R : Nat → List Int} (hf : AFit m s c) (ht : TabOk m s n R) : provesS m s c n R = true ↔ ∀ i k, i < n → k < m.length → cellOk m s c R i k := by
 have hBk : BOk m s (allP m s).length (behindS m s c) := behB_ok hf.c (last_ok hf.c hf.l.2 (fun i hi => allP_in i hi)) _ (Nat.le_refl _)
 have hL := hBk.1
 have hns := ht.hn
 have hent : ∀ i k : Nat, ent R ((i : Int), (k : Int)) = (R i).getD k 0 := fun i k => by unfold ent; simp
 unfold provesS
 rw [Bool.and_eq_true, all_iff, all_iff]
 constructor
 ·rintro ⟨h1, h2⟩ i k hi hk
  have hkd : ∀ {i k}, i < n → k < m.length → ((R i).getD k 0 < 0 ↔ alikeS m s ((i : Int), (k : Int)) = false) := fun {i k} hi hk => by
   have := h1 i hi
   unfold kindR at this
   exact kindE_iff.1 (all_iff.1 this k (by rw [ht.hlen i hi]; exact hk))
  have hyes : ∀ {i k}, i < n → k < m.length → (R i).getD k 0 ≥ 0 → alikeS m s ((i : Int), (k : Int)) = true := fun {i k} hi hk h => by
   cases e : alikeS m s ((i : Int), (k : Int)) with
   | true => rfl
   | false => have := (hkd hi hk).2 e; omega
  have hm0 := Int.mul_nonneg hf.c.1.1 (show (0 : Int) ≤ i by omega)
  by_cases h0 : (R i).getD k 0 < 0
  ·exact ⟨hkd hi hk, by omega, fun h => by omega⟩
  ·obtain ⟨j, hj, e⟩ := allP_at (inS_cast (show i < s.length by omega) hk) (hyes hi hk (by omega))
   have hp : (stAt (behindS m s c) j).p = ((i : Int), (k : Int)) := by rw [behindS_p hj, e]
   have hs := h2 j (by omega)
   unfold stepOkB at hs
   rw [Bool.and_eq_true, all_iff, hp, hent] at hs
   obtain ⟨hs1, hs2⟩ := hs
   have hs3 : ¬ ((R i).getD k 0 > c.missed * (i : Int)) := by
    rw [Bool.not_eq_true', decide_eq_false_iff_not] at hs1
    exact hs1
   refine ⟨hkd hi hk, by omega, fun _ p q hpi hqk hge => ?_⟩
   obtain ⟨j', hj', e'⟩ := allP_at (inS_cast (show p < s.length by omega) (show q < m.length by omega)) (hyes (by omega) (by omega) hge)
   have hp' : (stAt (behindS m s c) j').p = ((p : Int), (q : Int)) := by rw [behindS_p hj', e']
   have hlt : j' < j := by
    refine allP_lt hj' hj ?_
    rw [← behindS_p (c := c) hj', ← behindS_p (c := c) hj, hp', hp]
    show (p : Int) < (i : Int); omega
   have hb := hs2 j' hlt
   unfold pairB at hb
   rw [befS_iff.2 (by rw [hp', hp]; exact ⟨by show (p : Int) < (i : Int); omega, by show (q : Int) < (k : Int); omega⟩), hp, hp', hent, hent] at hb
   simp at hb
   simpa using hb
 ·intro h
  refine ⟨fun i hi => all_yes fun k hk => kindE_iff.2 (h i k hi (by rw [← ht.hlen i hi]; exact hk)).1, fun j hj => ?_⟩
  have hj2 : j < (allP m s).length := by omega
  have hin := allP_in (m := m) (s := s) j hj2
  have hal := allP_alike (m := m) (s := s) hj2
  rw [← behindS_p (c := c) hj2] at hin hal
  obtain ⟨c1, c2, c3⟩ := cast_pair hin
  obtain ⟨i, hi⟩ : ∃ i, (stAt (behindS m s c) j).p.1.toNat = i := ⟨_, rfl⟩
  obtain ⟨k, hk⟩ : ∃ k, (stAt (behindS m s c) j).p.2.toNat = k := ⟨_, rfl⟩
  rw [hi, hk] at c1
  rw [hi] at c2
  rw [hk] at c3
  obtain ⟨o1, o2, o3⟩ := h i k (by omega) c3
  rw [c1] at hal
  have hge : (R i).getD k 0 ≥ 0 := by
   by_cases q : (R i).getD k 0 < 0
   ·rw [o1.1 q] at hal; cases hal
   ·omega
  unfold stepOkB
  rw [c1, hent, decide_eq_false (by show ¬ ((R i).getD k 0 > c.missed * (i : Int)); omega)]
  refine all_yes fun j' hj' => ?_
  unfold pairB
  by_cases hb : befS (stAt (behindS m s c) j') (stAt (behindS m s c) j) = true
  ·have hj3 : j' < (allP m s).length := by omega
   have hin' := allP_in (m := m) (s := s) j' hj3
   have hal' := allP_alike (m := m) (s := s) hj3
   rw [← behindS_p (c := c) hj3] at hin' hal'
   obtain ⟨d1, d2, d3⟩ := cast_pair hin'
   obtain ⟨p, hp⟩ : ∃ p, (stAt (behindS m s c) j').p.1.toNat = p := ⟨_, rfl⟩
   obtain ⟨q, hq⟩ : ∃ q, (stAt (behindS m s c) j').p.2.toNat = q := ⟨_, rfl⟩
   rw [hp, hq] at d1
   rw [hp] at d2
   rw [hq] at d3
   obtain ⟨b1, b2⟩ := befS_iff.1 hb
   rw [hb, c1, d1, hent, hent]
   rw [c1, d1] at b1 b2
   have b1 : (p : Int) < (i : Int) := b1
   have b2 : (q : Int) < (k : Int) := b2
   rw [d1] at hal'
   have hge' : (R p).getD q 0 ≥ 0 := by
    by_cases z : (R p).getD q 0 < 0
    ·rw [(h p q (by omega) d3).1.1 z] at hal'; cases hal'
    ·omega
   have := o3 hge p q (by omega) (by omega) hge'
   rw [decide_eq_false (by omega)]
   rfl
  ·rw [show befS (stAt (behindS m s c) j') (stAt (behindS m s c) j) = false by simpa using hb]
   rfl
theorem proves_no {m s : List Th} {c : Cs} {n : Nat} {R : Nat → List Int} (hf : AFit m s c) (ht : TabOk m s n R) {i k : Nat} (hi : i < n) (hk : k < m.length) (h : ¬ cellOk m s c R i k) : provesS m s c n R = false := by
 cases e : provesS m s c n R with
 | false => rfl
 | true => exact absurd ((proves_iff hf ht).1 e i k hi hk) h


/-! ### The pairs of one kind, in order -/
def lexP (a b : Int × Int) : Prop := a.1 < b.1 ∨ (a.1 = b.1 ∧ a.2 < b.2)
theorem toP_lex (m s : List Th) : ∀ n, (toP m s n).Pairwise lexP
 | 0 => List.Pairwise.nil
 | n + 1 => by
  have lt : ∀ {k : Nat} {p : Int × Int}, p ∈ toP m s k → p.1 < k := by
   intro k
   induction k with
   | zero => intro p h; cases h
   | succ k ih =>
    intro p h
    rcases List.mem_append.1 h with h | h
    ·have := ih h; omega
    ·obtain ⟨z, _, rfl⟩ := List.mem_map.1 h
     show (k : Int) < ((k + 1 : Nat) : Int); omega
  refine List.pairwise_append.2 ⟨toP_lex m s n, ?_, fun a ha b hb => ?_⟩
  ·unfold rowP idxS
   rw [List.pairwise_map, List.pairwise_map]
   refine (List.Pairwise.filter _ List.pairwise_lt_range).imp fun {a b} h => .inr ⟨rfl, ?_⟩
   show Int.ofNat a < Int.ofNat b
   simp only [Int.ofNat_eq_natCast]
   omega
  ·obtain ⟨z, _, rfl⟩ := List.mem_map.1 hb
   have := lt ha
   exact .inl (show a.1 < (n : Int) by omega)
theorem allP_lex {m s : List Th} {i k : Nat} (hi : i < (allP m s).length) (hk : k < (allP m s).length) (h : i < k) : lexP (prAt (allP m s) i) (prAt (allP m s) k) := by
 have := List.pairwise_iff_getElem.1 (toP_lex m s s.length) i k hi hk h
 unfold prAt
 rw [List.getD, List.getD, List.getElem?_eq_getElem hi, List.getElem?_eq_getElem hk]
 exact this
theorem lexP_ne {p : Int × Int} : ¬ lexP p p := by
 rintro (h | ⟨_, h⟩) <;> omega
theorem allP_uniq {m s : List Th} {i k : Nat} (hi : i < (allP m s).length) (hk : k < (allP m s).length) (h : prAt (allP m s) i = prAt (allP m s) k) : i = k := by
 rcases Nat.lt_trichotomy i k with h1 | h1 | h1
 ·have := allP_lex hi hk h1; rw [h] at this; exact absurd this lexP_ne
 ·exact h1
 ·have := allP_lex hk hi h1; rw [h] at this; exact absurd this lexP_ne

/-! ### Beginnings and ends of an alignment -/
/-- The cost of a walk from a pair, over others, to one more. -/
def walkC (m s : List Th) (c : Cs) : Int → Int × Int → List (Int × Int) → Int × Int → Int
 | v, b, [], p => v + grownS m s c b p
 | v, b, q :: l, p => walkC m s c (v + grownS m s c b q) q l p
/-- The cost of an alignment's beginning, up to a pair. -/
def frontC (m s : List Th) (c : Cs) : List (Int × Int) → Int × Int → Int
 | [], p => c.missed * p.1
 | q :: l, p => walkC m s c (c.missed * q.1) q l p
theorem walkC_snoc (m s : List Th) (c : Cs) : ∀ (l : List (Int × Int)) (v : Int) (b q p : Int × Int), walkC m s c v b (l ++ [q]) p = walkC m s c v b l q + grownS m s c q p
 | [], v, b, q, p => rfl
 | x :: l, v, b, q, p => walkC_snoc m s c l _ x q p
theorem frontC_snoc (m s : List Th) (c : Cs) : ∀ (l : List (Int × Int)) (q p : Int × Int), frontC m s c (l ++ [q]) p = frontC m s c l q + grownS m s c q p
 | [], q, p => rfl
 | x :: l, q, p => walkC_snoc m s c l _ x q p
theorem walkC_tail (m s : List Th) (c : Cs) : ∀ (l : List (Int × Int)) (v : Int) (b p : Int × Int) (r : List (Int × Int)), v + tailC m s c b (l ++ p :: r) = walkC m s c v b l p + tailC m s c p r
 | [], v, b, p, r => by simp only [List.nil_append, tailC, walkC]; omega
 | q :: l, v, b, p, r => by
  have := walkC_tail m s c l (v + grownS m s c b q) q p r
  simp only [List.cons_append, tailC, walkC]
  omega
theorem cost_split (m s : List Th) (c : Cs) : ∀ (l : List (Int × Int)) (p : Int × Int) (r : List (Int × Int)), costS m s c (l ++ p :: r) = frontC m s c l p + tailC m s c p r
 | [], p, r => costS_cons m s c p r
 | q :: l, p, r => by
  rw [List.cons_append, costS_cons]
  exact walkC_tail m s c l _ q p r
theorem VP_append {m s : List Th} : ∀ {l : List (Int × Int)} {b p : Int × Int} {r : List (Int × Int)}, VP m s b (l ++ p :: r) ↔ VP m s b (l ++ [p]) ∧ VP m s p r
 | [], b, p, r => ⟨fun ⟨h1, h2, h3, h4⟩ => ⟨⟨h1, h2, h3, trivial⟩, h4⟩, fun ⟨⟨h1, h2, h3, _⟩, h4⟩ => ⟨h1, h2, h3, h4⟩⟩
 | q :: l, b, p, r => by
  constructor
  ·rintro ⟨h1, h2, h3, h4⟩
   have := VP_append.1 h4
   exact ⟨⟨h1, h2, h3, this.1⟩, this.2⟩
  ·rintro ⟨⟨h1, h2, h3, h4⟩, h5⟩
   exact ⟨h1, h2, h3, VP_append.2 ⟨h4, h5⟩⟩
theorem VP_last {m s : List Th} {l : List (Int × Int)} {b p : Int × Int} (h : VP m s b (l ++ [p])) : inS m s p ∧ alikeS m s p = true := by
 induction l generalizing b with
 | nil => exact ⟨h.2.1, h.2.2.1⟩
 | cons q l ih => exact ih h.2.2.2
theorem before_all {m s : List Th} {p : Int × Int} (h : inS m s p) : okS (-1, -1) p := ⟨by have := h.1.1; show (-1 : Int) < _; omega, by have := h.2.1; show (-1 : Int) < _; omega⟩
theorem VP_snoc {m s : List Th} {l : List (Int × Int)} {b q p : Int × Int} (h : VP m s b (l ++ [q])) (hp : okS q p) (hi : inS m s p) (ha : alikeS m s p = true) : VP m s b ((l ++ [q]) ++ [p]) := by
 rw [List.append_assoc]
 exact VP_append.2 ⟨h, hp, hi, ha, trivial⟩

/-- Entries that no beginning of one pair more goes below stay below the costs of beginnings. -/
structure Under (m s : List Th) (c : Cs) (E : Int × Int → Int) : Prop where
 one : ∀ p, inS m s p → alikeS m s p = true → E p ≤ c.missed * p.1
 more : ∀ q p, inS m s q → alikeS m s q = true → inS m s p → alikeS m s p = true → okS q p → E p ≤ E q + grownS m s c q p
theorem under_walk {m s : List Th} {c : Cs} {E : Int × Int → Int} (h : Under m s c E) : ∀ (l : List (Int × Int)) (v : Int) (b p : Int × Int), inS m s b → alikeS m s b = true → E b ≤ v → VP m s b (l ++ [p]) → E p ≤ walkC m s c v b l p
 | [], v, b, p, h1, h2, h3, ⟨h4, h5, h6, _⟩ => by
  have := h.more b p h1 h2 h5 h6 h4
  show E p ≤ v + _
  omega
 | q :: l, v, b, p, h1, h2, h3, ⟨h4, h5, h6, h7⟩ => by
  have := h.more b q h1 h2 h5 h6 h4
  exact under_walk h l _ q p h5 h6 (by omega) h7
theorem under_front {m s : List Th} {c : Cs} {E : Int × Int → Int} (h : Under m s c E) : ∀ (l : List (Int × Int)) (p : Int × Int), VP m s (-1, -1) (l ++ [p]) → E p ≤ frontC m s c l p
 | [], p, ⟨_, h5, h6, _⟩ => h.one p h5 h6
 | q :: l, p, ⟨_, h5, h6, h7⟩ => under_walk h l _ q p h5 h6 (h.one q h5 h6) h7

section own
variable {m s : List Th} {c : Cs}
theorem beh_ok (hf : AFit m s c) : BOk m s (allP m s).length (behindS m s c) := behB_ok hf.c (last_ok hf.c hf.l.2 (fun i hi => allP_in i hi)) _ (Nat.le_refl _)
theorem beh_len (hf : AFit m s c) : (behindS m s c).length = (allP m s).length := (beh_ok hf).1
/-- The least cost of a beginning, of pair j. -/
abbrev ahA (m s : List Th) (c : Cs) (j : Nat) : Int := (aheadS m s c (behindS m s c)).getD j 0
theorem ahA_nonneg (hf : AFit m s c) (j : Nat) : 0 ≤ ahA m s c j ∧ ahA m s c j ≤ 64000 := by
 have hL := beh_len hf
 exact aheadO_bound hf.c hf.l.2 (beh_ok hf) _ (by omega) j
theorem befS_pairs {i k : Nat} (hi : i < (allP m s).length) (hk : k < (allP m s).length) : befS (stAt (behindS m s c) k) (stAt (behindS m s c) i) = true ↔ okS (prAt (allP m s) k) (prAt (allP m s) i) := by
 rw [befS_iff, behindS_p hi, behindS_p hk]
 exact Iff.rfl
theorem ahA_char (hf : AFit m s c) {i : Nat} (hi : i < (allP m s).length) : ahA m s c i ≤ c.missed * (prAt (allP m s) i).1 ∧
  (∀ k, k < (allP m s).length → okS (prAt (allP m s) k) (prAt (allP m s) i) → ahA m s c i ≤ ahA m s c k + grownS m s c (prAt (allP m s) k) (prAt (allP m s) i)) ∧
  (ahA m s c i = c.missed * (prAt (allP m s) i).1 ∨ ∃ k, k < i ∧ okS (prAt (allP m s) k) (prAt (allP m s) i) ∧ ahA m s c i = ahA m s c k + grownS m s c (prAt (allP m s) k) (prAt (allP m s) i)) := by
 have hL := beh_len hf
 obtain ⟨h1, h2, h3⟩ := rowA_char (m := m) (s := s) (c := c) (L := behindS m s c) (O := aheadS m s c (behindS m s c)) (i := i) i
 rw [← aheadS_at (by omega), behindS_p hi] at h1 h3
 rw [← aheadS_at (by omega)] at h2
 refine ⟨h1, fun k hk hok => ?_, ?_⟩
 ·have := h2 k (allP_lt hk hi hok.1) ((befS_pairs hi hk).2 hok)
  rw [behindS_p hi, behindS_p hk] at this
  exact this
 ·rcases h3 with h3 | ⟨k, hk, h4, h5⟩
  ·exact .inl h3
  ·rw [behindS_p (by omega)] at h5
   exact .inr ⟨k, hk, (befS_pairs hi (by omega)).1 h4, h5⟩
/-- It is the cost of a beginning. -/
theorem ahA_att (hf : AFit m s c) : ∀ i, i < (allP m s).length → ∃ l, VP m s (-1, -1) (l ++ [prAt (allP m s) i]) ∧ frontC m s c l (prAt (allP m s) i) = ahA m s c i := by
 intro i
 induction i using Nat.strongRecOn with
 | _ i ih =>
  intro hi
  have hin := allP_in (m := m) (s := s) i hi
  rcases (ahA_char hf hi).2.2 with h | ⟨k, hk, hok, h⟩
  ·exact ⟨[], ⟨before_all hin, hin, allP_alike hi, trivial⟩, h.symm⟩
  ·obtain ⟨l, h1, h2⟩ := ih k hk (by omega)
   exact ⟨l ++ [prAt (allP m s) k], VP_snoc h1 hok hin (allP_alike hi), by rw [frontC_snoc, h2, h]⟩
theorem tabF_at (hf : AFit m s c) {i k : Nat} (hk : k < m.length) :
  (alikeS m s ((i : Int), (k : Int)) = false ∧ (tabF m s c i).getD k 0 = -1) ∨ (i ≥ s.length ∧ (tabF m s c i).getD k 0 = -1) ∨ ∃ j, j < (allP m s).length ∧ prAt (allP m s) j = ((i : Int), (k : Int)) ∧ (tabF m s c i).getD k 0 = ahA m s c j := by
 have hL := beh_len hf
 rcases wrF_at (k := m.length) (L := behindS m s c) (A := aheadS m s c (behindS m s c)) (i := i) hk (fun j hj => by
   have := allP_in (m := m) (s := s) j (by omega)
   rw [← behindS_p (c := c) (by omega)] at this
   exact ⟨this.1.1, this.2.1⟩) (behindS m s c).length (Nat.le_refl _) with ⟨h1, h2⟩ | ⟨j, hj, h1, h2⟩
 ·by_cases hi : i < s.length
  ·refine .inl ⟨?_, h2⟩
   cases e : alikeS m s ((i : Int), (k : Int)) with
   | false => rfl
   | true =>
    obtain ⟨j, hj, h3⟩ := allP_at (inS_cast hi hk) e
    exact absurd (by rw [behindS_p hj, h3]) (h1 j (by omega))
  ·exact .inr (.inl ⟨by omega, h2⟩)
 ·rw [behindS_p (by omega)] at h1
  exact .inr (.inr ⟨j, by omega, h1, h2⟩)
theorem tabF_len (i : Nat) : (tabF m s c i).length = m.length := wrF_len _ _ _ _ _
theorem tabF_small (hf : AFit m s c) (i k : Nat) : -1 ≤ (tabF m s c i).getD k 0 ∧ (tabF m s c i).getD k 0 ≤ 64000 := by
 by_cases hk : k < m.length
 ·rcases tabF_at hf (i := i) hk with ⟨_, h⟩ | ⟨_, h⟩ | ⟨j, _, _, h⟩
  ·omega
  ·omega
  ·have := ahA_nonneg hf j; omega
 ·rw [List.getD_eq_getElem?_getD, List.getElem?_eq_none (by rw [tabF_len]; omega)]
  exact ⟨by show (-1 : Int) ≤ 0; omega, by show (0 : Int) ≤ 64000; omega⟩
theorem tabF_ok (hf : AFit m s c) : TabOk m s s.length (tabF m s c) := ⟨rfl, fun e _ => tabF_len e, fun e _ k => by have := tabF_small hf e k; omega⟩
theorem tabF_cells (hf : AFit m s c) {i k : Nat} (hi : i < s.length) (hk : k < m.length) : cellOk m s c (tabF m s c) i k := by
 have hm0 := Int.mul_nonneg hf.c.1.1 (show (0 : Int) ≤ i by omega)
 rcases tabF_at hf (i := i) hk with ⟨h0, h⟩ | ⟨h0, _⟩ | ⟨j, hj, hp, h⟩
 ·exact ⟨⟨fun _ => h0, fun _ => by omega⟩, by omega, fun _ => by omega⟩
 ·omega
 ·have hal := allP_alike (m := m) (s := s) hj
  rw [hp] at hal
  have h0 := ahA_nonneg hf j
  obtain ⟨a1, a2, _⟩ := ahA_char hf hj
  rw [hp] at a1 a2
  refine ⟨⟨fun _ => by omega, fun e => by rw [hal] at e; cases e⟩, by rw [h]; exact a1, fun _ p q hpi hqk hge => ?_⟩
  rcases tabF_at hf (i := p) (show q < m.length by omega) with ⟨_, g⟩ | ⟨_, g⟩ | ⟨j', hj', hp', g⟩
  ·omega
  ·omega
  ·have := a2 j' hj' (by rw [hp']; exact ⟨by show (p : Int) < (i : Int); omega, by show (q : Int) < (k : Int); omega⟩)
   rw [hp'] at this
   rw [h, g]
   exact this
theorem tabF_proves (hf : AFit m s c) : provesS m s c s.length (tabF m s c) = true := (proves_iff hf (tabF_ok hf)).2 fun _ _ hi hk => tabF_cells hf hi hk

/-! ### A number of it that is 1 greater -/
def raiseF (R : Nat → List Int) (i k : Nat) (q : Nat) : List Int := if q = i then (R i).set k ((R i).getD k 0 + 1) else R q
theorem raise_len (R : Nat → List Int) (i k q : Nat) : (raiseF R i k q).length = (R q).length := by
 unfold raiseF
 split
 ·rename_i h; rw [h, List.length_set]
 ·rfl
theorem raise_at (R : Nat → List Int) (i k p q : Nat) (hk : k < (R i).length) : (raiseF R i k p).getD q 0 = if p = i ∧ q = k then (R i).getD k 0 + 1 else (R p).getD q 0 := by
 unfold raiseF
 by_cases h : p = i
 ·subst h
  rw [if_pos rfl, getD_set]
  by_cases h2 : q = k
  ·rw [if_pos ⟨h2, hk⟩, if_pos ⟨rfl, h2⟩]
  ·rw [if_neg (fun h => h2 h.1), if_neg (fun h => h2 h.2)]
 ·rw [if_neg h, if_neg (fun h2 => h h2.1)]
theorem raise_ok (hf : AFit m s c) {i k : Nat} (hk : k < m.length) : TabOk m s s.length (raiseF (tabF m s c) i k) :=
 ⟨rfl, fun e _ => by rw [raise_len, tabF_len], fun e _ q => by
  rw [raise_at _ _ _ _ _ (by rw [tabF_len]; exact hk)]
  split
  ·have := tabF_small hf i k; omega
  ·have := tabF_small hf e q; omega⟩
theorem raise_no (hf : AFit m s c) {i k : Nat} (hi : i < s.length) (hk : k < m.length) (h0 : 0 ≤ (tabF m s c i).getD k 0) : provesS m s c s.length (raiseF (tabF m s c) i k) = false := by
 refine proves_no hf (raise_ok hf hk) hi hk fun h => ?_
 have hr := fun p q => raise_at (tabF m s c) i k p q (by rw [tabF_len]; exact hk)
 obtain ⟨_, h2, h3⟩ := h
 rw [hr, if_pos ⟨rfl, rfl⟩] at h2 h3
 rcases tabF_at hf (i := i) hk with ⟨_, h⟩ | ⟨_, h⟩ | ⟨j, hj, hp, h⟩
 ·omega
 ·omega
 ·rw [h] at h2 h3
  have ha := ahA_nonneg hf j
  rcases (ahA_char hf hj).2.2 with e | ⟨j', hj', hok, e⟩
  ·rw [hp] at e; have e : ahA m s c j = c.missed * (i : Int) := e; omega
  ·have hj2 : j' < (allP m s).length := by omega
   obtain ⟨d1, d2, d3⟩ := cast_pair (allP_in (m := m) (s := s) j' hj2)
   obtain ⟨p, hpe⟩ : ∃ p, (prAt (allP m s) j').1.toNat = p := ⟨_, rfl⟩
   obtain ⟨q, hqe⟩ : ∃ q, (prAt (allP m s) j').2.toNat = q := ⟨_, rfl⟩
   rw [hpe, hqe] at d1
   rw [hpe] at d2
   rw [hqe] at d3
   rw [hp, d1] at hok e
   have hpi : p < i := by have : (p : Int) < (i : Int) := hok.1; omega
   have hqk : q < k := by have : (q : Int) < (k : Int) := hok.2; omega
   rcases tabF_at hf (i := p) d3 with ⟨g0, _⟩ | ⟨g0, _⟩ | ⟨j2, hj3, hp2, g⟩
   ·have hal := allP_alike (m := m) (s := s) hj2
    rw [d1, g0] at hal; cases hal
   ·omega
   ·have hb := (ahA_char hf hj).2.1 j2 hj3 (by rw [hp, hp2]; exact hok)
    have hc2 := ahA_nonneg hf j2
    have hjj : ahA m s c j2 = ahA m s c j' := by
     rw [allP_uniq hj3 hj2 (by rw [hp2, d1])]
    have := h3 (by omega) p q hpi hqk (by rw [hr, if_neg (by omega), g]; omega)
    rw [hr, if_neg (by omega), g] at this
    omega

/-! ### The bound -/
theorem bnd_char (R : Nat → List Int) : ∀ n, n ≤ (allP m s).length → bndS m s c R n ≤ c.missed * s.length ∧ (∀ k, k < n → bndS m s c R n ≤ ent R (prAt (allP m s) k) + baseS s c (prAt (allP m s) k)) ∧
  (bndS m s c R n = c.missed * s.length ∨ ∃ k, k < n ∧ bndS m s c R n = ent R (prAt (allP m s) k) + baseS s c (prAt (allP m s) k))
 | 0, _ => ⟨Int.le_refl _, fun k hk => absurd hk (Nat.not_lt_zero _), .inl rfl⟩
 | n + 1, hn => by
  obtain ⟨h1, h2, h3⟩ := bnd_char R n (by omega)
  have hb : c.missed * ((s.length : Int) - 1 - (prAt (allP m s) n).1) = baseS s c (prAt (allP m s) n) := rfl
  unfold bndS
  rw [hb]
  split
  ·rename_i hlt
   refine ⟨by omega, fun k hk => ?_, .inr ⟨n, by omega, rfl⟩⟩
   rcases Nat.lt_succ_iff_lt_or_eq.1 hk with h5 | rfl
   ·have := h2 k h5; omega
   ·exact Int.le_refl _
  ·rename_i hge
   refine ⟨h1, fun k hk => ?_, ?_⟩
   ·rcases Nat.lt_succ_iff_lt_or_eq.1 hk with h5 | rfl
    ·exact h2 k h5
    ·omega
   ·rcases h3 with h3 | ⟨k, hk, h6⟩
    ·exact .inl h3
    ·exact .inr ⟨k, by omega, h6⟩
/-- What a table proves bounds each alignment's cost. -/
theorem bnd_low {R : Nat → List Int} (hu : Under m s c (ent R)) {l : List (Int × Int)} (h : VP m s (-1, -1) l) : bndS m s c R (allP m s).length ≤ costS m s c l := by
 obtain ⟨h1, h2, _⟩ := bnd_char (m := m) (s := s) (c := c) R _ (Nat.le_refl _)
 rcases List.eq_nil_or_concat l with rfl | ⟨l', p, rfl⟩
 ·rw [costS_nil]; exact h1
 ·rw [List.concat_eq_append] at h ⊢
  have hl := VP_last h
  obtain ⟨k, hk, e⟩ := allP_at hl.1 hl.2
  have h3 := h2 k hk
  rw [e] at h3
  have h4 := under_front hu l' p h
  rw [cost_split]
  show _ ≤ _ + baseS s c p
  omega
theorem under_of {R : Nat → List Int} (hf : AFit m s c) (ht : TabOk m s s.length R) (hp : provesS m s c s.length R = true) : Under m s c (ent R) := by
 have h := (proves_iff hf ht).1 hp
 have hent : ∀ {p}, inS m s p → alikeS m s p = true → ∃ i k : Nat, p = ((i : Int), (k : Int)) ∧ i < s.length ∧ k < m.length ∧ ent R p = (R i).getD k 0 ∧ 0 ≤ ent R p := fun {p} hi ha => by
  obtain ⟨d1, d2, d3⟩ := cast_pair hi
  refine ⟨p.1.toNat, p.2.toNat, d1, d2, d3, rfl, ?_⟩
  have := (h _ _ d2 d3).1
  rw [← d1, ha] at this
  show 0 ≤ (R p.1.toNat).getD p.2.toNat 0
  by_cases q : (R p.1.toNat).getD p.2.toNat 0 < 0
  ·cases this.1 q
  ·omega
 refine ⟨fun p hi ha => ?_, fun q p hqi hqa hpi hpa hok => ?_⟩
 ·obtain ⟨i, k, rfl, h1, h2, h3, _⟩ := hent hi ha
  rw [h3]
  exact (h i k h1 h2).2.1
 ·obtain ⟨i, k, rfl, h1, h2, h3, h4⟩ := hent hpi hpa
  obtain ⟨i', k', rfl, g1, g2, g3, g4⟩ := hent hqi hqa
  rw [h3, g3]
  rw [h3] at h4
  rw [g3] at g4
  exact (h i k h1 h2).2.2 h4 i' k' (by have : (i' : Int) < (i : Int) := hok.1; omega) (by have : (k' : Int) < (k : Int) := hok.2; omega) g4
/-- No table proves more than the least cost. -/
theorem bnd_le {R : Nat → List Int} (hf : AFit m s c) (ht : TabOk m s s.length R) (hp : provesS m s c s.length R = true) : bndS m s c R (allP m s).length ≤ (headS m s c).cost := by
 obtain ⟨h1, h2, _⟩ := align_att m s c
 have := bnd_low (under_of hf ht hp) h1
 omega
theorem least_of {l : List (Int × Int)} (h : VP m s (-1, -1) l) : (headS m s c).cost ≤ costS m s c l := by
 have := align_low (c := c) h
 omega
/-- A beginning and an end cost no less than the least alignment. -/
theorem both_ge {l : List (Int × Int)} {i : Nat} (hi : i < (allP m s).length) (h : VP m s (-1, -1) (l ++ [prAt (allP m s) i])) : (headS m s c).cost ≤ frontC m s c l (prAt (allP m s) i) + (stAt (behindS m s c) i).cost := by
 obtain ⟨g1, g2, _⟩ := tail_att (c := c) ((allP m s).length) i hi (by omega)
 have := least_of (c := c) (VP_append.2 ⟨h, g1⟩)
 rw [cost_split, g2] at this
 exact this
theorem own_bound (hf : AFit m s c) : bndS m s c (tabF m s c) (allP m s).length = (headS m s c).cost := by
 refine Int.le_antisymm (bnd_le hf (tabF_ok hf) (tabF_proves hf)) ?_
 rcases (bnd_char (m := m) (s := s) (c := c) (tabF m s c) _ (Nat.le_refl _)).2.2 with h | ⟨k, hk, h⟩
 ·rw [h, ← costS_nil m s c]; exact least_of trivial
 ·obtain ⟨d1, d2, d3⟩ := cast_pair (allP_in (m := m) (s := s) k hk)
  have he : ent (tabF m s c) (prAt (allP m s) k) = ahA m s c k := by
   rcases tabF_at hf (i := (prAt (allP m s) k).1.toNat) d3 with ⟨g0, _⟩ | ⟨g0, _⟩ | ⟨j2, hj3, hp2, g⟩
   ·have hal := allP_alike (m := m) (s := s) hk
    rw [d1, g0] at hal; cases hal
   ·omega
   ·rw [← d1] at hp2
    rw [allP_uniq hj3 hk hp2] at g
    exact g
  rw [h, he]
  obtain ⟨l, h1, h2⟩ := ahA_att hf k hk
  have := least_of (c := c) h1
  rw [cost_split, h2] at this
  exact this
end own

end Go.Proofs.YtfmnfagcbehmdaaGreatDoor
