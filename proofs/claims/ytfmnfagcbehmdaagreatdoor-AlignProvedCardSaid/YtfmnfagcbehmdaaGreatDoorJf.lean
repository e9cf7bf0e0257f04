/- Chapter 5: the least alignment is the least one (no program). -/
import Derived.Test.YtfmnfagcbehmdaaGreatDoorJe
set_option linter.unusedVariables false
set_option linter.unusedSimpArgs false
namespace Go.Proofs.YtfmnfagcbehmdaaGreatDoor
open Go.RowKit Go.Sym

def tailC (m s : List Th) (c : Cs) : Int × Int → List (Int × Int) → Int
  | p, [] => baseS s c p
  | p, q :: l => grownS m s c p q + tailC m s c q l
/-- An alignment, behind a pair. -/
def VP (m s : List Th) : Int × Int → List (Int × Int) → Prop
  | _, [] => True
  | b, p :: l => okS b p ∧ inS m s p ∧ alikeS m s p = true ∧ VP m s p l
theorem pairsS_iff {m s : List Th} : ∀ {l : List (Int × Int)} {b : Int × Int}, pairsS m s l b = 0 ↔ VP m s b l
  | [], _ => ⟨fun _ => trivial, fun _ => rfl⟩
  | p :: l, b => by
    have hE : pairE m s p b = 0 ↔ alikeS m s p = true ∧ okS b p := by
      unfold pairE
      rw [firstS_cons, firstS_cons, whenS_zero (by decide), whenS_zero (by decide)]
      unfold okS
      by_cases h1 : p.1 ≤ b.1 <;> by_cases h2 : p.2 ≤ b.2 <;> cases alikeS m s p <;> simp [h1, h2, firstS] <;> omega
    have hO : outS m s p = false ↔ inS m s p := by
      refine ⟨outS_in, fun h => ?_⟩
      obtain ⟨⟨h1, h2⟩, h3, h4⟩ := h
      unfold outS
      have e1 : ¬ p.1 < 0 := by omega
      have e2 : ¬ (s.length : Int) ≤ p.1 := by omega
      have e3 : ¬ p.2 < 0 := by omega
      have e4 : ¬ (m.length : Int) ≤ p.2 := by omega
      simp [e1, e2, e3, e4]
    simp only [pairsS, VP]
    cases ho : outS m s p with
    | true =>
      rw [if_pos rfl]
      constructor
      · intro h; exact absurd h (by decide)
      · rintro ⟨_, h, _⟩; rw [hO.2 h] at ho; cases ho
    | false =>
      rw [if_neg (by decide)]
      have hin := hO.1 ho
      by_cases h : pairE m s p b = 0
      · rw [if_pos h, pairsS_iff]
        have := hE.1 h
        exact ⟨fun hv => ⟨this.2, hin, this.1, hv⟩, fun hv => hv.2.2.2⟩
      · rw [if_neg h]
        constructor
        · intro h'; exact absurd h' h
        · rintro ⟨g1, _, g3, _⟩; exact absurd (hE.2 ⟨g3, g1⟩) h

theorem growS_cons (m s : List Th) (c : Cs) (p : Int × Int) (l : List (Int × Int)) : ∀ k, growS m s c (p :: l) (k + 1) = grownS m s c p (prAt l 0) + growS m s c l k
  | 0 => by simp [growS, prAt]
  | k + 1 => by
    rw [growS, growS_cons m s c p l k, growS]
    have e1 : prAt (p :: l) (k + 1) = prAt l k := by simp [prAt]
    have e2 : prAt (p :: l) (k + 1 + 1) = prAt l (k + 1) := by simp [prAt]
    rw [e1, e2]
    omega
theorem tailC_grow (m s : List Th) (c : Cs) : ∀ (l : List (Int × Int)) (p : Int × Int), growS m s c (p :: l) l.length + baseS s c (prAt (p :: l) l.length) = tailC m s c p l
  | [], p => by simp [growS, tailC, prAt]
  | q :: l, p => by
    have e0 : prAt (q :: l) 0 = q := rfl
    have e1 : prAt (p :: q :: l) (q :: l).length = prAt (q :: l) l.length := by simp [prAt]
    rw [List.length_cons, growS_cons, e0, tailC, ← tailC_grow m s c l q]
    rw [List.length_cons] at e1
    rw [e1]
    omega
theorem costS_cons (m s : List Th) (c : Cs) (p : Int × Int) (l : List (Int × Int)) : costS m s c (p :: l) = c.missed * p.1 + tailC m s c p l := by
  unfold costS endS'
  rw [if_neg (by simp), ← tailC_grow]
  have e1 : (((p :: l).length : Int) - 1).toNat = l.length := by simp
  have e2 : (p :: l).length - 1 = l.length := by simp
  have e3 : prAt (p :: l) 0 = p := rfl
  rw [e1, e2, e3]
  unfold baseS
  omega
theorem costS_nil (m s : List Th) (c : Cs) : costS m s c [] = c.missed * s.length := rfl

theorem tail_low {m s : List Th} {c : Cs} : ∀ (l : List (Int × Int)) (i : Nat), i < (allP m s).length → VP m s (prAt (allP m s) i) l →
    ¬ (tailC m s c (prAt (allP m s) i) l < (stAt (behindS m s c) i).cost ∨ (tailC m s c (prAt (allP m s) i) l = (stAt (behindS m s c) i).cost ∧ (stAt (behindS m s c) i).many < l.length))
  | [], i, hi, _ => by
    have h := (behindS_loc (c := c) hi).base
    rw [behindS_p hi] at h
    show ¬ (baseS s c _ < _ ∨ (baseS s c _ = _ ∧ _ < ((0 : Nat) : Int)))
    omega
  | q :: l, i, hi, hv => by
    obtain ⟨h1, h2, h3, h4⟩ := hv
    obtain ⟨k, hk, rfl⟩ := allP_at h2 h3
    have ih := tail_low (c := c) l k hk h4
    have hik := allP_lt hi hk h1.1
    have hl := (behindS_loc (c := c) hi).low k hik hk (by rw [behindS_p hi, behindS_p hk]; exact h1)
    unfold viaS at hl
    rw [behindS_p hi, behindS_p hk] at hl
    simp only [tailC, List.length_cons]
    omega
theorem tail_att {m s : List Th} {c : Cs} : ∀ (f i : Nat), i < (allP m s).length → (allP m s).length ≤ i + f →
    VP m s (prAt (allP m s) i) (chainP (behindS m s c) f (stAt (behindS m s c) i).next) ∧ tailC m s c (prAt (allP m s) i) (chainP (behindS m s c) f (stAt (behindS m s c) i).next) = (stAt (behindS m s c) i).cost ∧
      ((chainP (behindS m s c) f (stAt (behindS m s c) i).next).length : Int) = (stAt (behindS m s c) i).many
  | 0, i, hi, h => by omega
  | f + 1, i, hi, h => by
    rcases (behindS_loc (c := c) hi).att with ⟨h1, h2, h3⟩ | ⟨k, h1, h2, h3, h4, h5, h6, _⟩
    · rw [h1, show chainP (behindS m s c) (f + 1) (-1) = [] from rfl]
      rw [behindS_p hi] at h2
      exact ⟨trivial, h2.symm, h3.symm⟩
    · obtain ⟨g1, g2, g3⟩ := tail_att (c := c) f k h2 (by omega)
      have e : chainP (behindS m s c) (f + 1) (stAt (behindS m s c) i).next = prAt (allP m s) k :: chainP (behindS m s c) f (stAt (behindS m s c) k).next := by
        rw [h3]
        simp only [chainP]
        rw [if_pos (by omega), Int.toNat_natCast, behindS_p h2]
      rw [e]
      unfold viaS at h5
      rw [behindS_p hi, behindS_p h2] at h4 h5
      refine ⟨⟨h4, allP_in k h2, allP_alike h2, g1⟩, ?_, ?_⟩
      · simp only [tailC]; omega
      · simp only [List.length_cons]; omega

structure HLoc (s : List Th) (c : Cs) (L : List St) (k : Nat) (h : Hd) : Prop where
  base : ¬ (c.missed * s.length < h.cost ∨ (c.missed * s.length = h.cost ∧ h.many < 0))
  low : ∀ i, i < k → ¬ (c.missed * (stAt L i).p.1 + (stAt L i).cost < h.cost ∨ (c.missed * (stAt L i).p.1 + (stAt L i).cost = h.cost ∧ h.many < (stAt L i).many + 1))
  att : (h.next = -1 ∧ h.cost = c.missed * s.length ∧ h.many = 0) ∨ ∃ i : Nat, i < k ∧ h.next = i ∧ h.cost = c.missed * (stAt L i).p.1 + (stAt L i).cost ∧ h.many = (stAt L i).many + 1 ∧
    (h.cost < c.missed * s.length ∨ (h.cost = c.missed * s.length ∧ 0 < h.many)) ∧
    ∀ j, j < i → (h.cost < c.missed * (stAt L j).p.1 + (stAt L j).cost ∨ (h.cost = c.missed * (stAt L j).p.1 + (stAt L j).cost ∧ (stAt L j).many + 1 < h.many))
theorem headB_loc (s : List Th) (c : Cs) (L : List St) : ∀ k, HLoc s c L k (headB s c L k)
  | 0 => ⟨by simp only [headB]; omega, fun i hi => by omega, .inl ⟨rfl, rfl, rfl⟩⟩
  | k + 1 => by
    have ih := headB_loc s c L k
    simp only [headB]
    split
    · rename_i hb
      have hb' := betterS_iff.1 hb
      have hbase := ih.base
      refine ⟨?_, fun i hi => ?_, .inr ⟨k, Nat.lt_succ_self _, rfl, rfl, rfl, ?_, fun j hj => ?_⟩⟩
      · dsimp only; omega
      · dsimp only
        rcases Nat.lt_succ_iff_lt_or_eq.1 hi with hi | rfl
        · have := ih.low i hi; omega
        · omega
      · dsimp only; omega
      · dsimp only
        have := ih.low j hj
        omega
    · rename_i hb
      have hb' := fun h => hb (betterS_iff.2 h)
      refine ⟨ih.base, fun i hi => ?_, ?_⟩
      · rcases Nat.lt_succ_iff_lt_or_eq.1 hi with hi | rfl
        · exact ih.low i hi
        · exact hb'
      · rcases ih.att with h | ⟨i, h1, h2⟩
        · exact .inl h
        · exact .inr ⟨i, by omega, h2⟩

/-- No alignment is better than the least one. -/
theorem align_low {m s : List Th} {c : Cs} {l : List (Int × Int)} (h : VP m s (-1, -1) l) : ¬ (costS m s c l < (headS m s c).cost ∨ (costS m s c l = (headS m s c).cost ∧ (headS m s c).many < l.length)) := by
  have hh := headB_loc s c (behindS m s c) (allP m s).length
  cases l with
  | nil => exact hh.base
  | cons p l =>
    obtain ⟨h1, h2, h3, h4⟩ := h
    obtain ⟨k, hk, rfl⟩ := allP_at h2 h3
    have ht := tail_low (c := c) l k hk h4
    have hl := hh.low k hk
    rw [behindS_p hk] at hl
    rw [costS_cons, List.length_cons]
    unfold headS
    omega
/-- The least alignment is one, of the cost that is told. -/
theorem align_att (m s : List Th) (c : Cs) : VP m s (-1, -1) (alignP m s c) ∧ costS m s c (alignP m s c) = (headS m s c).cost ∧ ((alignP m s c).length : Int) = (headS m s c).many := by
  have hh := headB_loc s c (behindS m s c) (allP m s).length
  unfold alignP
  rcases hh.att with ⟨h1, h2, h3⟩ | ⟨i, h1, h2, h3, h4, _⟩
  · have e : chainP (behindS m s c) ((allP m s).length + 1) (headS m s c).next = [] := by rw [show (headS m s c).next = -1 from h1]; rfl
    rw [e]
    exact ⟨trivial, h2.symm, h3.symm⟩
  · have e : chainP (behindS m s c) ((allP m s).length + 1) (headS m s c).next = prAt (allP m s) i :: chainP (behindS m s c) (allP m s).length (stAt (behindS m s c) i).next := by
      rw [show (headS m s c).next = i from h2]
      simp only [chainP]
      rw [if_pos (by omega), Int.toNat_natCast, behindS_p h1]
    obtain ⟨g1, g2, g3⟩ := tail_att (c := c) (allP m s).length i h1 (by omega)
    have hin := allP_in (m := m) (s := s) i h1
    rw [e, costS_cons]
    rw [behindS_p h1] at h3
    refine ⟨⟨⟨by have := hin.1.1; show (-1 : Int) < _; omega, by have := hin.2.1; show (-1 : Int) < _; omega⟩, hin, allP_alike h1, g1⟩, ?_, ?_⟩
    · rw [g2]; exact h3.symm
    · rw [List.length_cons]; unfold headS; omega

end Go.Proofs.YtfmnfagcbehmdaaGreatDoor
