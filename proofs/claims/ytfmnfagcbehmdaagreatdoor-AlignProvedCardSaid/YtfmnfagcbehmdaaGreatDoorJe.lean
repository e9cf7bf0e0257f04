/- Chapter 5: what the states tell (no program): each is the best of what may come behind it. -/
import Derived.Test.YtfmnfagcbehmdaaGreatDoorJd
set_option linter.unusedVariables false
set_option linter.unusedSimpArgs false
namespace Go.Proofs.YtfmnfagcbehmdaaGreatDoor
open Go.RowKit Go.Sym

theorem betterS_iff {a b c d : Int} : betterS a b c d = true ↔ a < c ∨ (a = c ∧ d < b) := by
  unfold betterS
  by_cases h1 : a < c <;> by_cases h2 : a = c <;> by_cases h3 : d < b <;> simp [h1, h2, h3] <;> omega
def okS (a b : Int × Int) : Prop := a.1 < b.1 ∧ a.2 < b.2
theorem skipS_iff {a b : St} : skipS a b = true ↔ ¬ okS a.p b.p := by
  unfold skipS okS
  by_cases h1 : b.p.1 ≤ a.p.1 <;> by_cases h2 : b.p.2 ≤ a.p.2 <;> simp [h1, h2] <;> omega
def baseS (s : List Th) (c : Cs) (p : Int × Int) : Int := c.missed * (s.length - 1 - p.1)
def viaS (m s : List Th) (c : Cs) (a b : St) : Int := grownS m s c a.p b.p + b.cost

/-- State i of l is the best of those of i+1 to h-1 that may come next, and of none. -/
structure Loc (m s : List Th) (c : Cs) (l : List St) (i h : Nat) : Prop where
  base : ¬ (baseS s c (stAt l i).p < (stAt l i).cost ∨ (baseS s c (stAt l i).p = (stAt l i).cost ∧ (stAt l i).many < 0))
  low : ∀ k, i < k → k < h → okS (stAt l i).p (stAt l k).p → ¬ (viaS m s c (stAt l i) (stAt l k) < (stAt l i).cost ∨ (viaS m s c (stAt l i) (stAt l k) = (stAt l i).cost ∧ (stAt l i).many < (stAt l k).many + 1))
  att : ((stAt l i).next = -1 ∧ (stAt l i).cost = baseS s c (stAt l i).p ∧ (stAt l i).many = 0) ∨
    ∃ k : Nat, i < k ∧ k < h ∧ (stAt l i).next = k ∧ okS (stAt l i).p (stAt l k).p ∧ (stAt l i).cost = viaS m s c (stAt l i) (stAt l k) ∧ (stAt l i).many = (stAt l k).many + 1 ∧
      ((stAt l i).cost < baseS s c (stAt l i).p ∨ ((stAt l i).cost = baseS s c (stAt l i).p ∧ 0 < (stAt l i).many)) ∧
      ∀ k', i < k' → k' < k → okS (stAt l i).p (stAt l k').p → ((stAt l i).cost < viaS m s c (stAt l i) (stAt l k') ∨ ((stAt l i).cost = viaS m s c (stAt l i) (stAt l k') ∧ (stAt l k').many + 1 < (stAt l i).many))

theorem stepB_len (m s : List Th) (c : Cs) (l : List St) (i k : Nat) : (stepB m s c l i k).length = l.length := by
  unfold stepB
  split
  · rfl
  · split
    · exact List.length_set
    · rfl
theorem stepB_other {m s : List Th} {c : Cs} {l : List St} {i k j : Nat} (hj : j ≠ i) : stAt (stepB m s c l i k) j = stAt l j := by
  unfold stepB
  split
  · rfl
  · split
    · unfold stAt
      simp [List.getD, List.getElem?_set_ne (Ne.symm hj)]
    · rfl
theorem stepB_p {m s : List Th} {c : Cs} {l : List St} {i k : Nat} (hi : i < l.length) (j : Nat) : (stAt (stepB m s c l i k) j).p = (stAt l j).p := by
  by_cases hj : j = i
  · subst hj
    unfold stepB
    split
    · rfl
    · split
      · rw [set_at _ _ _ _ hi, if_pos rfl]; rfl
      · rfl
  · rw [stepB_other hj]
theorem stepB_loc {m s : List Th} {c : Cs} {l : List St} {i k : Nat} (hi : i < k) (hk : k < l.length) (h : Loc m s c l i k) : Loc m s c (stepB m s c l i k) i (k + 1) := by
  have hot : ∀ j, j ≠ i → stAt (stepB m s c l i k) j = stAt l j := fun j hj => stepB_other hj
  by_cases hs : skipS (stAt l i) (stAt l k) = true
  · have e : stepB m s c l i k = l := by unfold stepB; rw [if_pos hs]
    rw [e]
    refine ⟨h.base, fun j h1 h2 h3 => ?_, ?_⟩
    · rcases Nat.lt_succ_iff_lt_or_eq.1 h2 with h2 | rfl
      · exact h.low j h1 h2 h3
      · exact absurd h3 (skipS_iff.1 hs)
    · rcases h.att with h1 | ⟨j, h1, h2, h3⟩
      · exact .inl h1
      · exact .inr ⟨j, h1, by omega, h3⟩
  · have hok : okS (stAt l i).p (stAt l k).p := Classical.byContradiction fun hn => hs (skipS_iff.2 hn)
    by_cases ht : takeS m s c (stAt l i) (stAt l k) = true
    · have e : stepB m s c l i k = l.set i (newSt m s c (stAt l i) (stAt l k) k) := by unfold stepB; rw [if_neg hs, if_pos ht]
      have ei : stAt (stepB m s c l i k) i = newSt m s c (stAt l i) (stAt l k) k := by rw [e, set_at _ _ _ _ (by omega), if_pos rfl]
      have ek : stAt (stepB m s c l i k) k = stAt l k := hot k (by omega)
      have hb := betterS_iff.1 ht
      have hvia : ∀ x : St, viaS m s c (newSt m s c (stAt l i) (stAt l k) k) x = viaS m s c (stAt l i) x := fun x => rfl
      have hcost : (newSt m s c (stAt l i) (stAt l k) k).cost = viaS m s c (stAt l i) (stAt l k) := rfl
      have hmany : (newSt m s c (stAt l i) (stAt l k) k).many = (stAt l k).many + 1 := rfl
      have hp : (newSt m s c (stAt l i) (stAt l k) k).p = (stAt l i).p := rfl
      have hb' : viaS m s c (stAt l i) (stAt l k) < (stAt l i).cost ∨ (viaS m s c (stAt l i) (stAt l k) = (stAt l i).cost ∧ (stAt l i).many < (stAt l k).many + 1) := hb
      have hbase := h.base
      refine ⟨?_, fun j h1 h2 h3 => ?_, .inr ⟨k, hi, by omega, by rw [ei]; rfl, by rw [ei, ek]; exact hok, by rw [ei, ek, hvia]; exact hcost, by rw [ei, ek]; exact hmany, ?_, fun j h1 h2 h3 => ?_⟩⟩
      · rw [ei, hp, hcost, hmany]
        omega
      · rw [ei, hot j (by omega)] at h3 ⊢
        rw [hvia, hcost, hmany]
        rcases Nat.lt_succ_iff_lt_or_eq.1 h2 with h2 | rfl
        · have := h.low j h1 h2 h3
          omega
        · omega
      · rw [ei, hp, hcost, hmany]
        omega
      · rw [ei, hot j (by omega)] at h3 ⊢
        rw [hvia, hcost, hmany]
        have := h.low j h1 h2 h3
        omega
    · have e : stepB m s c l i k = l := by unfold stepB; rw [if_neg hs, if_neg ht]
      rw [e]
      have hb : ¬ (viaS m s c (stAt l i) (stAt l k) < (stAt l i).cost ∨ (viaS m s c (stAt l i) (stAt l k) = (stAt l i).cost ∧ (stAt l i).many < (stAt l k).many + 1)) := fun hn => ht (betterS_iff.2 hn)
      refine ⟨h.base, fun j h1 h2 h3 => ?_, ?_⟩
      · rcases Nat.lt_succ_iff_lt_or_eq.1 h2 with h2 | rfl
        · exact h.low j h1 h2 h3
        · exact hb
      · rcases h.att with h1 | ⟨j, h1, h2, h3⟩
        · exact .inl h1
        · exact .inr ⟨j, h1, by omega, h3⟩

theorem rowB_len (m s : List Th) (c : Cs) (l : List St) (i q : Nat) : (rowB m s c l i q).length = l.length := by
  induction q with
  | zero => rfl
  | succ q ih => simp only [rowB, stepB_len, ih]
theorem rowB_other {m s : List Th} {c : Cs} {l : List St} {i j : Nat} (hj : j ≠ i) (q : Nat) : stAt (rowB m s c l i q) j = stAt l j := by
  induction q with
  | zero => rfl
  | succ q ih => rw [rowB, stepB_other hj, ih]
theorem rowB_p {m s : List Th} {c : Cs} {l : List St} {i : Nat} (hi : i < l.length) (q j : Nat) : (stAt (rowB m s c l i q) j).p = (stAt l j).p := by
  induction q with
  | zero => rfl
  | succ q ih => rw [rowB, stepB_p (by rw [rowB_len]; exact hi), ih]
theorem rowB_loc {m s : List Th} {c : Cs} {l : List St} {i : Nat} (h : Loc m s c l i (i + 1)) : ∀ q, i + q < l.length → Loc m s c (rowB m s c l i q) i (i + 1 + q)
  | 0, _ => h
  | q + 1, hq => stepB_loc (by omega) (by rw [rowB_len]; omega) (rowB_loc h q (by omega))
theorem Loc.same {m s : List Th} {c : Cs} {l l' : List St} {i h : Nat} (hl : Loc m s c l i h) (he : ∀ k, i ≤ k → stAt l' k = stAt l k) : Loc m s c l' i h := by
  have e := he i (Nat.le_refl _)
  refine ⟨by rw [e]; exact hl.base, fun k h1 h2 => by rw [e, he k (by omega)]; exact hl.low k h1 h2, ?_⟩
  rcases hl.att with h1 | ⟨k, h1, h2, h3, h4, h5, h6, h7, h8⟩
  · rw [e]; exact .inl h1
  · refine .inr ⟨k, h1, h2, by rw [e]; exact h3, by rw [e, he k (by omega)]; exact h4, by rw [e, he k (by omega)]; exact h5, by rw [e, he k (by omega)]; exact h6, by rw [e]; exact h7, fun k' g1 g2 => ?_⟩
    rw [e, he k' (by omega)]
    exact h8 k' g1 g2
theorem behB_len (m s : List Th) (c : Cs) (l : List St) (j : Nat) : (behB m s c l j).length = l.length := by
  induction j with
  | zero => rfl
  | succ j ih => simp only [behB, rowB_len, ih]
theorem behB_p {m s : List Th} {c : Cs} {l : List St} (j : Nat) (hj : j ≤ l.length) (k : Nat) : (stAt (behB m s c l j) k).p = (stAt l k).p := by
  induction j with
  | zero => rfl
  | succ j ih => rw [behB, rowB_p (by rw [behB_len]; omega), ih (by omega)]
theorem behB_low {m s : List Th} {c : Cs} {l : List St} (j k : Nat) (hk : k + j < l.length) : stAt (behB m s c l j) k = stAt l k := by
  induction j with
  | zero => rfl
  | succ j ih => rw [behB, rowB_other (by omega), ih (by omega)]
theorem behB_loc {m s : List Th} {c : Cs} {P : List (Int × Int)} : ∀ j, j ≤ P.length → ∀ i, P.length ≤ i + j → i < P.length → Loc m s c (behB m s c (P.map (lastS s c)) j) i P.length
  | 0, _, i, h1, h2 => by omega
  | j + 1, hj, i, h1, h2 => by
    have hlen : (P.map (lastS s c)).length = P.length := List.length_map _
    simp only [behB]
    rw [hlen]
    by_cases hi : i = P.length - 1 - j
    · have h0 : Loc m s c (behB m s c (P.map (lastS s c)) j) i (i + 1) := by
        have e : stAt (behB m s c (P.map (lastS s c)) j) i = lastS s c (prAt P i) := by
          rw [behB_low j i (by rw [hlen]; omega)]
          exact map_at (lastS s c) (0, 0) stD P i h2
        refine ⟨?_, fun k g1 g2 => by omega, .inl ?_⟩
        · rw [e]; show ¬ (baseS s c (prAt P i) < baseS s c (prAt P i) ∨ (baseS s c (prAt P i) = baseS s c (prAt P i) ∧ (0 : Int) < 0)); omega
        · rw [e]; exact ⟨rfl, rfl, rfl⟩
      have := rowB_loc h0 j (by rw [behB_len, hlen]; omega)
      rw [← hi]
      rwa [show i + 1 + j = P.length by omega] at this
    · exact (behB_loc j (by omega) i (by omega) h2).same fun k hk => rowB_other (by omega) j
/-- The states that the program makes: each has its pair, and is the best of what may come behind it. -/
theorem behindS_p {m s : List Th} {c : Cs} {i : Nat} (h : i < (allP m s).length) : (stAt (behindS m s c) i).p = prAt (allP m s) i := by
  unfold behindS
  rw [behB_p _ (by rw [List.length_map]; exact Nat.le_refl _)]
  rw [show stAt ((allP m s).map (lastS s c)) i = lastS s c (prAt (allP m s) i) from map_at (lastS s c) (0, 0) stD _ i h]
  rfl
theorem behindS_loc {m s : List Th} {c : Cs} {i : Nat} (h : i < (allP m s).length) : Loc m s c (behindS m s c) i (allP m s).length := behB_loc _ (Nat.le_refl _) i (by omega) h

/-! ### The pairs of one kind -/
theorem idxS_all {m : List Th} {c : ByteArray} {k : Nat} {z : Int} (h0 : 0 ≤ z) (h1 : z < k) (h2 : (thAt m z).kind = c) : z ∈ idxS m c k := by
  unfold idxS
  refine List.mem_map.2 ⟨z.toNat, List.mem_filter.2 ⟨List.mem_range.2 (by omega), by simpa [thAt] using h2⟩, by simp; omega⟩
theorem toP_mem {m s : List Th} {p : Int × Int} : ∀ {n : Nat}, n ≤ s.length → (p ∈ toP m s n ↔ inS m s p ∧ alikeS m s p = true ∧ p.1 < n)
  | 0, _ => by
    constructor
    · intro h; cases h
    · rintro ⟨h, _, h2⟩; exact absurd h2 (by have := h.1.1; omega)
  | n + 1, hn => by
    rw [toP, List.mem_append, toP_mem (by omega)]
    constructor
    · rintro (⟨h1, h2, h3⟩ | h)
      · exact ⟨h1, h2, by omega⟩
      · obtain ⟨z, hz, rfl⟩ := List.mem_map.1 h
        obtain ⟨g1, g2, g3⟩ := idxS_mem hz
        refine ⟨⟨⟨by show (0 : Int) ≤ (n : Int); omega, by show (n : Int) < s.length; omega⟩, g1, g2⟩, ?_, by show (n : Int) < ((n + 1 : Nat) : Int); omega⟩
        unfold alikeS
        rw [decide_eq_true_eq, g3]
        simp [thAt]
    · rintro ⟨h1, h2, h3⟩
      by_cases h4 : p.1 < n
      · exact .inl ⟨h1, h2, h4⟩
      · have h5 : p.1 = n := by omega
        refine .inr (List.mem_map.2 ⟨p.2, idxS_all h1.2.1 h1.2.2 ?_, ?_⟩)
        · unfold alikeS at h2
          rw [decide_eq_true_eq] at h2
          rw [← h2, h5]
          simp [thAt]
        · rw [← h5]
theorem toP_sorted (m s : List Th) : ∀ n, (toP m s n).Pairwise fun a b => a.1 ≤ b.1
  | 0 => List.Pairwise.nil
  | n + 1 => by
    have lt : ∀ {k : Nat} {p : Int × Int}, p ∈ toP m s k → p.1 < k := by
      intro k
      induction k with
      | zero => intro p h; cases h
      | succ k ih =>
        intro p h
        rcases List.mem_append.1 h with h | h
        · have := ih h; omega
        · obtain ⟨z, _, rfl⟩ := List.mem_map.1 h
          show (k : Int) < ((k + 1 : Nat) : Int); omega
    refine List.pairwise_append.2 ⟨toP_sorted m s n, ?_, fun a ha b hb => ?_⟩
    · unfold rowP
      rw [List.pairwise_map]
      exact List.pairwise_of_forall fun _ _ => Int.le_refl _
    · obtain ⟨z, _, rfl⟩ := List.mem_map.1 hb
      have := lt ha
      show a.1 ≤ (n : Int)
      omega
theorem allP_at {m s : List Th} {p : Int × Int} (h : inS m s p) (ha : alikeS m s p = true) : ∃ k, k < (allP m s).length ∧ prAt (allP m s) k = p := by
  have hm : p ∈ allP m s := (toP_mem (Nat.le_refl _)).2 ⟨h, ha, h.1.2⟩
  obtain ⟨k, hk, e⟩ := List.getElem_of_mem hm
  refine ⟨k, hk, ?_⟩
  unfold prAt
  rw [List.getD, List.getElem?_eq_getElem hk]
  exact e
theorem allP_alike {m s : List Th} {i : Nat} (h : i < (allP m s).length) : alikeS m s (prAt (allP m s) i) = true := by
  have hm : prAt (allP m s) i ∈ allP m s := by
    unfold prAt
    rw [List.getD, List.getElem?_eq_getElem h]
    exact List.getElem_mem h
  exact ((toP_mem (Nat.le_refl _)).1 hm).2.1
theorem allP_lt {m s : List Th} {i k : Nat} (hi : i < (allP m s).length) (hk : k < (allP m s).length) (h : (prAt (allP m s) i).1 < (prAt (allP m s) k).1) : i < k := by
  refine Nat.lt_of_not_le fun hle => ?_
  rcases Nat.lt_or_eq_of_le hle with hlt | rfl
  · have := List.pairwise_iff_getElem.1 (toP_sorted m s s.length) k i hk hi hlt
    unfold prAt at h
    rw [List.getD, List.getD, List.getElem?_eq_getElem hi, List.getElem?_eq_getElem hk] at h
    simp only [Option.getD_some] at h
    exact absurd h (by show ¬ _; exact Int.not_lt.2 this)
  · omega

end Go.Proofs.YtfmnfagcbehmdaaGreatDoor
