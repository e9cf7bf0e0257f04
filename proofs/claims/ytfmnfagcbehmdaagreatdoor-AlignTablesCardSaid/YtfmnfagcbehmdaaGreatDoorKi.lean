/- Chapter 5: the table of a ride is the reference's; what it means that a table proves; the bound. No code is walked here. -/
import Derived.Test.YtfmnfagcbehmdaaGreatDoorKh
import Derived.Test.YtfmnfagcbehmdaaGreatDoorJe
set_option linter.unusedVariables false
set_option linter.unusedSimpArgs false
namespace Go.Proofs.YtfmnfagcbehmdaaGreatDoor
open Go.RowKit Go.Sym

/-! ### The least cost of a beginning, of the states -/
theorem rowA_char {m s : List Th} {c : Cs} {L : List St} {O : List Int} {i : Nat} : ∀ n, rowA m s c L O i n ≤ c.missed * (stAt L i).p.1 ∧
    (∀ k, k < n → befS (stAt L k) (stAt L i) = true → rowA m s c L O i n ≤ O.getD k 0 + grownS m s c (stAt L k).p (stAt L i).p) ∧
    (rowA m s c L O i n = c.missed * (stAt L i).p.1 ∨ ∃ k, k < n ∧ befS (stAt L k) (stAt L i) = true ∧ rowA m s c L O i n = O.getD k 0 + grownS m s c (stAt L k).p (stAt L i).p)
  | 0 => ⟨Int.le_refl _, fun k hk => absurd hk (Nat.not_lt_zero _), .inl rfl⟩
  | n + 1 => by
    obtain ⟨h1, h2, h3⟩ := rowA_char (m := m) (s := s) (c := c) (L := L) (O := O) (i := i) n
    have h4 : ∀ k, k < n + 1 → k < n ∨ k = n := fun k hk => by omega
    unfold rowA
    split
    · rename_i hb
      split
      · rename_i hlt
        refine ⟨by omega, fun k hk hbk => ?_, .inr ⟨n, by omega, hb, rfl⟩⟩
        rcases h4 k hk with h5 | rfl
        · have := h2 k h5 hbk; omega
        · exact Int.le_refl _
      · rename_i hge
        refine ⟨h1, fun k hk hbk => ?_, ?_⟩
        · rcases h4 k hk with h5 | rfl
          · exact h2 k h5 hbk
          · omega
        · rcases h3 with h3 | ⟨k, hk, h5, h6⟩
          · exact .inl h3
          · exact .inr ⟨k, by omega, h5, h6⟩
    · rename_i hb
      refine ⟨h1, fun k hk hbk => ?_, ?_⟩
      · rcases h4 k hk with h5 | rfl
        · exact h2 k h5 hbk
        · exact absurd hbk hb
      · rcases h3 with h3 | ⟨k, hk, h5, h6⟩
        · exact .inl h3
        · exact .inr ⟨k, by omega, h5, h6⟩
theorem rowA_congr {m s : List Th} {c : Cs} {L : List St} {O O' : List Int} {i : Nat} : ∀ n, (∀ k, k < n → O.getD k 0 = O'.getD k 0) → rowA m s c L O i n = rowA m s c L O' i n
  | 0, _ => rfl
  | n + 1, h => by
    unfold rowA
    rw [rowA_congr n (fun k hk => h k (by omega)), h n (by omega)]
theorem aheadO_stay {m s : List Th} {c : Cs} {L : List St} {i k : Nat} (hk : k < i) : ∀ j, i ≤ j → (aheadO m s c L j).getD k 0 = (aheadO m s c L i).getD k 0
  | 0, h => by omega
  | j + 1, h => by
    by_cases e : i = j + 1
    · subst e; rfl
    · have h1 := aheadO_stay (m := m) (s := s) (c := c) (L := L) hk j (by omega)
      show ((aheadO m s c L j).set j _).getD k 0 = _
      rw [getD_set, if_neg (by omega)]
      exact h1
theorem aheadS_at {m s : List Th} {c : Cs} {L : List St} {i : Nat} (hi : i < L.length) : (aheadS m s c L).getD i 0 = rowA m s c L (aheadS m s c L) i i := by
  unfold aheadS
  rw [aheadO_stay (m := m) (s := s) (c := c) (L := L) (Nat.lt_succ_self i) L.length (by omega)]
  show ((aheadO m s c L i).set i _).getD i 0 = _
  rw [getD_set, if_pos ⟨rfl, by rw [aheadO_len]; exact hi⟩]
  exact rowA_congr i fun k hk => (aheadO_stay hk L.length (by omega)).symm

/-! ### .. of the reference's cells -/
theorem innF_char {m s : List Th} {c : Cs} {R : Nat → List Int} {i k p : Nat} {v : Int} : ∀ n, innF m s c R i k p v n ≤ v ∧
    (∀ q, q < n → (R p).getD q 0 ≥ 0 → innF m s c R i k p v n ≤ (R p).getD q 0 + grownS m s c ((p : Int), (q : Int)) ((i : Int), (k : Int))) ∧
    (innF m s c R i k p v n = v ∨ ∃ q, q < n ∧ (R p).getD q 0 ≥ 0 ∧ innF m s c R i k p v n = (R p).getD q 0 + grownS m s c ((p : Int), (q : Int)) ((i : Int), (k : Int)))
  | 0 => ⟨Int.le_refl _, fun k hk => absurd hk (Nat.not_lt_zero _), .inl rfl⟩
  | n + 1 => by
    obtain ⟨h1, h2, h3⟩ := innF_char (m := m) (s := s) (c := c) (R := R) (i := i) (k := k) (p := p) (v := v) n
    have h4 : ∀ q, q < n + 1 → q < n ∨ q = n := fun q hq => by omega
    unfold innF minF
    split
    · rename_i hb
      split
      · rename_i hlt
        refine ⟨by omega, fun q hq hbq => ?_, .inr ⟨n, by omega, hb, rfl⟩⟩
        rcases h4 q hq with h5 | rfl
        · have := h2 q h5 hbq; omega
        · exact Int.le_refl _
      · rename_i hge
        refine ⟨h1, fun q hq hbq => ?_, ?_⟩
        · rcases h4 q hq with h5 | rfl
          · exact h2 q h5 hbq
          · omega
        · rcases h3 with h3 | ⟨q, hq, h5, h6⟩
          · exact .inl h3
          · exact .inr ⟨q, by omega, h5, h6⟩
    · rename_i hb
      refine ⟨h1, fun q hq hbq => ?_, ?_⟩
      · rcases h4 q hq with h5 | rfl
        · exact h2 q h5 hbq
        · exact absurd hbq hb
      · rcases h3 with h3 | ⟨q, hq, h5, h6⟩
        · exact .inl h3
        · exact .inr ⟨q, by omega, h5, h6⟩
theorem outF_char {m s : List Th} {c : Cs} {R : Nat → List Int} {i k : Nat} : ∀ n, outF m s c R i k n ≤ c.missed * i ∧
    (∀ p q, p < n → q < k → (R p).getD q 0 ≥ 0 → outF m s c R i k n ≤ (R p).getD q 0 + grownS m s c ((p : Int), (q : Int)) ((i : Int), (k : Int))) ∧
    (outF m s c R i k n = c.missed * i ∨ ∃ p q, p < n ∧ q < k ∧ (R p).getD q 0 ≥ 0 ∧ outF m s c R i k n = (R p).getD q 0 + grownS m s c ((p : Int), (q : Int)) ((i : Int), (k : Int)))
  | 0 => ⟨Int.le_refl _, fun p q hp => absurd hp (Nat.not_lt_zero _), .inl rfl⟩
  | n + 1 => by
    obtain ⟨h1, h2, h3⟩ := outF_char (m := m) (s := s) (c := c) (R := R) (i := i) (k := k) n
    obtain ⟨g1, g2, g3⟩ := innF_char (m := m) (s := s) (c := c) (R := R) (i := i) (k := k) (p := n) (v := outF m s c R i k n) k
    have e : outF m s c R i k (n + 1) = innF m s c R i k n (outF m s c R i k n) k := rfl
    rw [e]
    refine ⟨by omega, fun p q hp hq hb => ?_, ?_⟩
    · by_cases h5 : p = n
      · subst h5; exact g2 q hq hb
      · have := h2 p q (by omega) hq hb; omega
    · rcases g3 with g3 | ⟨q, hq, g4, g5⟩
      · rw [g3]
        rcases h3 with h3 | ⟨p, q, hp, hq, h5, h6⟩
        · exact .inl h3
        · exact .inr ⟨p, q, by omega, hq, h5, h6⟩
      · exact .inr ⟨n, q, by omega, hq, g4, g5⟩
theorem innF_congr {m s : List Th} {c : Cs} {R R' : Nat → List Int} {i k p : Nat} {v : Int} (h : R p = R' p) : ∀ n, innF m s c R i k p v n = innF m s c R' i k p v n
  | 0 => rfl
  | n + 1 => by unfold innF minF; rw [innF_congr h n, h]
theorem outF_congr {m s : List Th} {c : Cs} {R R' : Nat → List Int} {i k : Nat} : ∀ n, (∀ p, p < n → R p = R' p) → outF m s c R i k n = outF m s c R' i k n
  | 0, _ => rfl
  | n + 1, h => by
    unfold outF
    rw [outF_congr n (fun p hp => h p (by omega)), innF_congr (h n (by omega))]
theorem lineF_at {m s : List Th} {c : Cs} {R : Nat → List Int} {i : Nat} : ∀ n k, k < n → n ≤ m.length → (lineF m s c R i n).getD k 0 = cellF m s c R i k
  | 0, k, h, _ => by omega
  | n + 1, k, h, hn => by
    unfold lineF
    rw [getD_set]
    by_cases e : k = n
    · subst e; rw [if_pos ⟨rfl, by rw [lineF_len]; omega⟩]
    · rw [if_neg (by omega)]; exact lineF_at n k (by omega) (by omega)
theorem refF_stay {m s : List Th} {c : Cs} {p i : Nat} (hp : p < i) : ∀ j, i ≤ j → refF m s c j p = refF m s c i p
  | 0, h => by omega
  | j + 1, h => by
    by_cases e : i = j + 1
    · subst e; rfl
    · have h1 := refF_stay (m := m) (s := s) (c := c) hp j (by omega)
      show (if p = j then _ else refF m s c j p) = _
      rw [if_neg (by omega)]
      exact h1
theorem refF_at {m s : List Th} {c : Cs} {n i k : Nat} (hi : i < n) (hk : k < m.length) : (refF m s c n i).getD k 0 = cellF m s c (refF m s c n) i k := by
  rw [refF_stay (Nat.lt_succ_self i) n (by omega)]
  show (if i = i then lineF m s c (refF m s c i) i m.length else _).getD k 0 = _
  rw [if_pos rfl, lineF_at _ _ hk (Nat.le_refl _)]
  unfold cellF
  rw [outF_congr i fun p hp => (refF_stay hp n (by omega)).symm]

/-! ### Both tables are one -/
theorem cast_pair {m s : List Th} {p : Int × Int} (h : inS m s p) : p = ((p.1.toNat : Int), (p.2.toNat : Int)) ∧ p.1.toNat < s.length ∧ p.2.toNat < m.length := by
  obtain ⟨⟨h1, h2⟩, h3, h4⟩ := h
  refine ⟨?_, by omega, by omega⟩
  rw [Int.toNat_of_nonneg h1, Int.toNat_of_nonneg h3]
theorem inS_cast {m s : List Th} {i k : Nat} (hi : i < s.length) (hk : k < m.length) : inS m s ((i : Int), (k : Int)) :=
  ⟨⟨by show (0 : Int) ≤ i; omega, by show (i : Int) < _; omega⟩, by show (0 : Int) ≤ k; omega, by show (k : Int) < _; omega⟩
/-- The least cost of each beginning is the cell of the reference's table. -/
theorem ahead_cell {m s : List Th} {c : Cs} (hf : AFit m s c) : ∀ i k, i < s.length → k < m.length → ∀ j, j < (behindS m s c).length → (stAt (behindS m s c) j).p = ((i : Int), (k : Int)) →
    (aheadS m s c (behindS m s c)).getD j 0 = cellF m s c (refF m s c s.length) i k := by
  have hBk : BOk m s (allP m s).length (behindS m s c) := behB_ok hf.c (last_ok hf.c hf.l.2 (fun i hi => allP_in i hi)) _ (Nat.le_refl _)
  have hL := hBk.1
  obtain ⟨A, hA⟩ : ∃ A, aheadS m s c (behindS m s c) = A := ⟨_, rfl⟩
  have hAb : ∀ k, 0 ≤ A.getD k 0 := fun k => by rw [← hA]; exact (aheadO_bound hf.c hf.l.2 hBk _ (by omega) k).1
  have hAt : ∀ {i}, i < (behindS m s c).length → A.getD i 0 = rowA m s c (behindS m s c) A i i := fun {i} h => by rw [← hA]; exact aheadS_at h
  have hRF : ∀ {i k}, i < s.length → k < m.length → (refF m s c s.length i).getD k 0 = cellF m s c (refF m s c s.length) i k := fun h1 h2 => refF_at h1 h2
  obtain ⟨RF, hR⟩ : ∃ RF, refF m s c s.length = RF := ⟨_, rfl⟩
  rw [hR] at hRF
  rw [hA, hR]
  intro i
  induction i using Nat.strongRecOn with
  | _ i ih =>
    intro k hi hk j hj hp
    have hal : alikeS m s ((i : Int), (k : Int)) = true := by
      rw [← hp, behindS_p (by omega)]
      exact allP_alike (by omega)
    have hcell : cellF m s c RF i k = outF m s c RF i k i := if_pos hal
    rw [hAt hj, hcell]
    obtain ⟨a1, a2, a3⟩ := rowA_char (m := m) (s := s) (c := c) (L := behindS m s c) (O := A) (i := j) j
    obtain ⟨b1, b2, b3⟩ := outF_char (m := m) (s := s) (c := c) (R := RF) (i := i) (k := k) i
    rw [hp] at a1 a2 a3
    refine Int.le_antisymm ?_ ?_
    · rcases b3 with b3 | ⟨p, q, hpi, hqk, b4, b5⟩
      · rw [b3]; exact a1
      · rw [b5]
        have hpq := hRF (show p < s.length by omega) (show q < m.length by omega)
        have hal2 : alikeS m s ((p : Int), (q : Int)) = true := by
          cases e : alikeS m s ((p : Int), (q : Int)) with
          | true => rfl
          | false =>
            unfold cellF at hpq
            rw [e] at hpq
            rw [hpq] at b4
            simp at b4
        obtain ⟨j', hj', e⟩ := allP_at (inS_cast (show p < s.length by omega) (show q < m.length by omega)) hal2
        have hp' : (stAt (behindS m s c) j').p = ((p : Int), (q : Int)) := by rw [behindS_p hj', e]
        have hlt : j' < j := by
          refine allP_lt hj' (by omega) ?_
          rw [← behindS_p (c := c) hj', ← behindS_p (c := c) (show j < (allP m s).length by omega), hp', hp]
          show (p : Int) < (i : Int); omega
        have hih := ih p hpi q (by omega) (by omega) j' (by omega) hp'
        have := a2 j' hlt (befS_iff.2 (by rw [hp', hp]; exact ⟨by show (p : Int) < (i : Int); omega, by show (q : Int) < (k : Int); omega⟩))
        rw [hp'] at this
        rw [hpq, ← hih]
        exact this
    · rcases a3 with a3 | ⟨j', hj', a4, a5⟩
      · rw [a3]; exact b1
      · rw [a5]
        obtain ⟨b6, b7⟩ := befS_iff.1 a4
        rw [hp] at b6 b7
        have hj2 : j' < (allP m s).length := by omega
        have hin := allP_in (m := m) (s := s) j' hj2
        rw [← behindS_p (c := c) hj2] at hin
        obtain ⟨c1, c2, c3⟩ := cast_pair hin
        have hlt1 : (stAt (behindS m s c) j').p.1.toNat < i := by have := hin.1.1; have b6 : (stAt (behindS m s c) j').p.1 < (i : Int) := b6; omega
        have hlt2 : (stAt (behindS m s c) j').p.2.toNat < k := by have := hin.2.1; have b7 : (stAt (behindS m s c) j').p.2 < (k : Int) := b7; omega
        have hih := ih _ hlt1 _ c2 c3 j' (by omega) c1
        have hpq := hRF c2 c3
        have := b2 _ _ hlt1 hlt2 (by rw [hpq, ← hih]; exact hAb j')
        rw [hpq, ← hih, ← c1] at this
        exact this
theorem wrF_at {k : Nat} {L : List St} {A : List Int} {i q : Nat} (hq : q < k) (hin : ∀ j, j < L.length → 0 ≤ (stAt L j).p.1 ∧ 0 ≤ (stAt L j).p.2) : ∀ n, n ≤ L.length →
    ((∀ j, j < n → (stAt L j).p ≠ ((i : Int), (q : Int))) ∧ (wrF k L A n i).getD q 0 = -1) ∨ ∃ j, j < n ∧ (stAt L j).p = ((i : Int), (q : Int)) ∧ (wrF k L A n i).getD q 0 = A.getD j 0
  | 0, _ => .inl ⟨fun j hj => absurd hj (Nat.not_lt_zero _), by unfold wrF; simp [List.getD, hq]⟩
  | n + 1, hn => by
    have ih := wrF_at (A := A) (i := i) hq hin n (by omega)
    have e : wrF k L A (n + 1) i = if i = (stAt L n).p.1.toNat then (wrF k L A n i).set (stAt L n).p.2.toNat (A.getD n 0) else wrF k L A n i := rfl
    have hn0 := hin n (by omega)
    have heq : (stAt L n).p = ((i : Int), (q : Int)) ↔ i = (stAt L n).p.1.toNat ∧ q = (stAt L n).p.2.toNat := by
      constructor
      · intro h; rw [h]; simp
      · rintro ⟨h1, h2⟩
        refine Prod.ext ?_ ?_
        · show (stAt L n).p.1 = (i : Int); omega
        · show (stAt L n).p.2 = (q : Int); omega
    by_cases h : (stAt L n).p = ((i : Int), (q : Int))
    · refine .inr ⟨n, by omega, h, ?_⟩
      obtain ⟨h1, h2⟩ := heq.1 h
      rw [e, if_pos h1, getD_set, if_pos ⟨h2, by rw [wrF_len]; omega⟩]
    · have e2 : (wrF k L A (n + 1) i).getD q 0 = (wrF k L A n i).getD q 0 := by
        rw [e]
        split
        · rename_i h1
          rw [getD_set, if_neg fun h2 => h (heq.2 ⟨h1, h2.1⟩)]
        · rfl
      rw [e2]
      rcases ih with ⟨h1, h2⟩ | ⟨j, hj, h1, h2⟩
      · exact .inl ⟨fun j hj => by rcases Nat.lt_succ_iff_lt_or_eq.1 hj with h3 | rfl; exact h1 j h3; exact h, h2⟩
      · exact .inr ⟨j, by omega, h1, h2⟩
theorem tab_ref {m s : List Th} {c : Cs} (hf : AFit m s c) {i : Nat} (hi : i < s.length) : tabF m s c i = refF m s c s.length i := by
  have hBk : BOk m s (allP m s).length (behindS m s c) := behB_ok hf.c (last_ok hf.c hf.l.2 (fun i hi => allP_in i hi)) _ (Nat.le_refl _)
  have hL := hBk.1
  have hlen : (tabF m s c i).length = m.length := wrF_len _ _ _ _ _
  refine ints_eq (by rw [hlen, refF_len hi]) fun k hk => ?_
  have hk' : k < m.length := by omega
  rw [refF_at hi hk']
  rcases wrF_at (k := m.length) (L := behindS m s c) (A := aheadS m s c (behindS m s c)) (i := i) hk' (fun j hj => by
      have := allP_in (m := m) (s := s) j (by omega)
      rw [← behindS_p (c := c) (by omega)] at this
      exact ⟨this.1.1, this.2.1⟩) (behindS m s c).length (Nat.le_refl _) with ⟨h1, h2⟩ | ⟨j, hj, h1, h2⟩
  · have hno : alikeS m s ((i : Int), (k : Int)) = false := by
      cases e : alikeS m s ((i : Int), (k : Int)) with
      | false => rfl
      | true =>
        obtain ⟨j, hj, h3⟩ := allP_at (inS_cast hi hk') e
        exact absurd (by rw [behindS_p hj, h3]) (h1 j (by omega))
    unfold cellF
    rw [hno]
    exact h2
  · rw [← ahead_cell hf i k hi hk' j hj h1]
    exact h2

/-! ### What it means that a table proves -/
def cellOk (m s : List Th) (c : Cs) (R : Nat → List Int) (i k : Nat) : Prop :=
  ((R i).getD k 0 < 0 ↔ alikeS m s ((i : Int), (k : Int)) = false) ∧ (R i).getD k 0 ≤ c.missed * i ∧ ((R i).getD k 0 ≥ 0 → ∀ p q, p < i → q < k → (R p).getD q 0 ≥ 0 → (R i).getD k 0 ≤ (R p).getD q 0 + grownS m s c ((p : Int), (q : Int)) ((i : Int), (k : Int)))
theorem kindE_iff {m s : List Th} {R : Nat → List Int} {i k : Nat} : kindE m s R i k = true ↔ ((R i).getD k 0 < 0 ↔ alikeS m s ((i : Int), (k : Int)) = false) := by
  unfold kindE
  generalize (R i).getD k 0 = x
  generalize alikeS m s ((i : Int), (k : Int)) = b
  by_cases h : x < 0 <;> cases b <;> simp [h] <;> omega
theorem proves_iff {m s : List Th} {c : Cs} {n : Nat} {R : Nat → List Int} (hf : AFit m s c) (ht : TabOk m s n R) : provesS m s c n R = true ↔ ∀ i k, i < n → k < m.length → cellOk m s c R i k := by
  have hBk : BOk m s (allP m s).length (behindS m s c) := behB_ok hf.c (last_ok hf.c hf.l.2 (fun i hi => allP_in i hi)) _ (Nat.le_refl _)
  have hL := hBk.1
  have hns := ht.hn
  have hent : ∀ i k : Nat, ent R ((i : Int), (k : Int)) = (R i).getD k 0 := fun i k => by unfold ent; simp
  unfold provesS
  rw [Bool.and_eq_true, all_iff, all_iff]
  constructor
  · rintro ⟨h1, h2⟩ i k hi hk
    have hkd : ∀ {i k}, i < n → k < m.length → ((R i).getD k 0 < 0 ↔ alikeS m s ((i : Int), (k : Int)) = false) := fun {i k} hi hk => by
      have := h1 i hi
      unfold kindR at this
      exact kindE_iff.1 (all_iff.1 this k (by rw [ht.hlen i hi]; exact hk))
    have hyes : ∀ {i k}, i < n → k < m.length → (R i).getD k 0 ≥ 0 → alikeS m s ((i : Int), (k : Int)) = true := fun {i k} hi hk h => by
      cases e : alikeS m s ((i : Int), (k : Int)) with
      | true => rfl
      | false => have := (hkd hi hk).2 e; omega
    have hm0 := Int.mul_nonneg hf.c.1.1 (show (0 : Int) ≤ i by omega)
    by_cases h0 : (R i).getD k 0 < 0
    · exact ⟨hkd hi hk, by omega, fun h => by omega⟩
    · obtain ⟨j, hj, e⟩ := allP_at (inS_cast (show i < s.length by omega) hk) (hyes hi hk (by omega))
      have hp : (stAt (behindS m s c) j).p = ((i : Int), (k : Int)) := by rw [behindS_p hj, e]
      have hs := h2 j (by omega)
      unfold stepOkB at hs
      rw [Bool.and_eq_true, all_iff, hp, hent] at hs
      obtain ⟨hs1, hs2⟩ := hs
      have hs3 : ¬ ((R i).getD k 0 > c.missed * (i : Int)) := by
        rw [Bool.not_eq_true', decide_eq_false_iff_not] at hs1
        exact hs1
      refine ⟨hkd hi hk, by omega, fun _ p q hpi hqk hge => ?_⟩
      obtain ⟨j', hj', e'⟩ := allP_at (inS_cast (show p < s.length by omega) (show q < m.length by omega)) (hyes (by omega) (by omega) hge)
      have hp' : (stAt (behindS m s c) j').p = ((p : Int), (q : Int)) := by rw [behindS_p hj', e']
      have hlt : j' < j := by
        refine allP_lt hj' hj ?_
        rw [← behindS_p (c := c) hj', ← behindS_p (c := c) hj, hp', hp]
        show (p : Int) < (i : Int); omega
      have hb := hs2 j' hlt
      unfold pairB at hb
      rw [befS_iff.2 (by rw [hp', hp]; exact ⟨by show (p : Int) < (i : Int); omega, by show (q : Int) < (k : Int); omega⟩), hp, hp', hent, hent] at hb
      simp at hb
      simpa using hb
  · intro h
    refine ⟨fun i hi => all_yes fun k hk => kindE_iff.2 (h i k hi (by rw [← ht.hlen i hi]; exact hk)).1, fun j hj => ?_⟩
    have hj2 : j < (allP m s).length := by omega
    have hin := allP_in (m := m) (s := s) j hj2
    have hal := allP_alike (m := m) (s := s) hj2
    rw [← behindS_p (c := c) hj2] at hin hal
    obtain ⟨c1, c2, c3⟩ := cast_pair hin
    obtain ⟨i, hi⟩ : ∃ i, (stAt (behindS m s c) j).p.1.toNat = i := ⟨_, rfl⟩
    obtain ⟨k, hk⟩ : ∃ k, (stAt (behindS m s c) j).p.2.toNat = k := ⟨_, rfl⟩
    rw [hi, hk] at c1
    rw [hi] at c2
    rw [hk] at c3
    obtain ⟨o1, o2, o3⟩ := h i k (by omega) c3
    rw [c1] at hal
    have hge : (R i).getD k 0 ≥ 0 := by
      by_cases q : (R i).getD k 0 < 0
      · rw [o1.1 q] at hal; cases hal
      · omega
    unfold stepOkB
    rw [c1, hent, decide_eq_false (by show ¬ ((R i).getD k 0 > c.missed * (i : Int)); omega)]
    refine all_yes fun j' hj' => ?_
    unfold pairB
    by_cases hb : befS (stAt (behindS m s c) j') (stAt (behindS m s c) j) = true
    · have hj3 : j' < (allP m s).length := by omega
      have hin' := allP_in (m := m) (s := s) j' hj3
      have hal' := allP_alike (m := m) (s := s) hj3
      rw [← behindS_p (c := c) hj3] at hin' hal'
      obtain ⟨d1, d2, d3⟩ := cast_pair hin'
      obtain ⟨p, hp⟩ : ∃ p, (stAt (behindS m s c) j').p.1.toNat = p := ⟨_, rfl⟩
      obtain ⟨q, hq⟩ : ∃ q, (stAt (behindS m s c) j').p.2.toNat = q := ⟨_, rfl⟩
      rw [hp, hq] at d1
      rw [hp] at d2
      rw [hq] at d3
      obtain ⟨b1, b2⟩ := befS_iff.1 hb
      rw [hb, c1, d1, hent, hent]
      rw [c1, d1] at b1 b2
      have b1 : (p : Int) < (i : Int) := b1
      have b2 : (q : Int) < (k : Int) := b2
      rw [d1] at hal'
      have hge' : (R p).getD q 0 ≥ 0 := by
        by_cases z : (R p).getD q 0 < 0
        · rw [(h p q (by omega) d3).1.1 z] at hal'; cases hal'
        · omega
      have := o3 hge p q (by omega) (by omega) hge'
      rw [decide_eq_false (by omega)]
      rfl
    · rw [show befS (stAt (behindS m s c) j') (stAt (behindS m s c) j) = false by simpa using hb]
      rfl
theorem proves_no {m s : List Th} {c : Cs} {n : Nat} {R : Nat → List Int} (hf : AFit m s c) (ht : TabOk m s n R) {i k : Nat} (hi : i < n) (hk : k < m.length) (h : ¬ cellOk m s c R i k) : provesS m s c n R = false := by
  cases e : provesS m s c n R with
  | false => rfl
  | true => exact absurd ((proves_iff hf ht).1 e i k hi hk) h

/-! ### The bound -/
def minI (a b : Int) : Int := if b < a then b else a
theorem bnd_fold {m s : List Th} {c : Cs} {R : Nat → List Int} : ∀ k, k ≤ (allP m s).length → bndS m s c R k = ((allP m s).take k).foldl (fun v p => minI v (ent R p + c.missed * (s.length - 1 - p.1))) (c.missed * s.length)
  | 0, _ => by simp [bndS]
  | k + 1, h => by
    rw [take_snoc (allP m s) (0, 0) k (by omega), List.foldl_append, ← bnd_fold k (by omega)]
    rfl
theorem rbK_fold {s : List Th} {c : Cs} {R : Nat → List Int} {i : Nat} {v : Int} (K : ByteArray) (m : List Th) (h : ∀ k, k < m.length → ((R i).getD k 0 ≥ 0 ↔ (m.getD k thD).kind = K)) : ∀ n, n ≤ m.length → rbK s c R i v n = ((idxS m K n).map fun z => ((i : Int), z)).foldl (fun v p => minI v (ent R p + c.missed * (s.length - 1 - p.1))) v
  | 0, _ => by simp [rbK, idxS]
  | n + 1, hn => by
    have ih := rbK_fold (s := s) (c := c) (v := v) K m h n (by omega)
    rw [idxS_succ]
    unfold rbK
    by_cases hg : (R i).getD n 0 ≥ 0
    · rw [if_pos hg, if_pos ((h n (by omega)).1 hg), List.map_append, List.foldl_append, ← ih]
      simp only [List.map_cons, List.map_nil, List.foldl_cons, List.foldl_nil, minI, ent, Int.toNat_natCast]
      rfl
    · rw [if_neg hg, if_neg fun e => hg ((h n (by omega)).2 e), ih]
theorem rbI_fold {m s : List Th} {c : Cs} {R : Nat → List Int} {n : Nat} (hn : n = s.length) (hl : ∀ e, e < n → (R e).length = m.length) (h : ∀ i k, i < n → k < m.length → ((R i).getD k 0 < 0 ↔ alikeS m s ((i : Int), (k : Int)) = false)) :
    ∀ i, i ≤ n → rbI s c R i = (toP m s i).foldl (fun v p => minI v (ent R p + c.missed * (s.length - 1 - p.1))) (c.missed * s.length)
  | 0, _ => rfl
  | i + 1, hi => by
    have ih := rbI_fold (c := c) hn hl h i (by omega)
    show rbK s c R i (rbI s c R i) (R i).length = (toP m s i ++ rowP m s i).foldl _ _
    rw [List.foldl_append, ← ih, hl i (by omega)]
    refine rbK_fold (s.getD i thD).kind m (fun k hk => ?_) _ (Nat.le_refl _)
    have := h i k (by omega) hk
    unfold alikeS thAt at this
    simp only [Int.toNat_natCast, decide_eq_false_iff_not] at this
    constructor
    · intro hg
      by_cases e : (s.getD i thD).kind = (m.getD k thD).kind
      · exact e.symm
      · have := this.2 e; omega
    · intro e
      by_cases hg : (R i).getD k 0 < 0
      · exact absurd e.symm (this.1 hg)
      · omega
theorem bound_eq {m s : List Th} {c : Cs} {n : Nat} {R : Nat → List Int} (hf : AFit m s c) (ht : TabOk m s n R) (hp : provesS m s c n R = true) : rbI s c R n = bndS m s c R (allP m s).length := by
  have h := (proves_iff hf ht).1 hp
  rw [bnd_fold _ (Nat.le_refl _), List.take_length, rbI_fold ht.hn ht.hlen (fun i k hi hk => (h i k hi hk).1) n (Nat.le_refl _), ht.hn]
  rfl

end Go.Proofs.YtfmnfagcbehmdaaGreatDoor
