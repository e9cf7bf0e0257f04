/- Chapter 5: a ride and an alignment turned: what stays (no program). -/
import Derived.Test.YtoopgdchiljmiaaGreatDoorJf
import Derived.Test.YtoopgdchiljmiaaGreatDoorFd
import Derived.Test.YtoopgdchiljmiaaGreatDoorFe
set_option linter.unusedVariables false
set_option linter.unusedSimpArgs false
namespace Go.Proofs.YtoopgdchiljmiaaGreatDoor
open Go.RowKit Go.Sym

theorem turnL_at (F : Int) (l : List Th) {i : Int} (h0 : 0 ≤ i) (h1 : i < l.length) : thAt (turnL F l) ((l.length : Int) - 1 - i) = turnT F (thAt l i) := by
  obtain ⟨k, rfl⟩ : ∃ k : Nat, i = k := ⟨i.toNat, by omega⟩
  have hk : k < l.length := by omega
  unfold thAt turnL
  rw [show ((l.length : Int) - 1 - k).toNat = l.length - 1 - k by omega, Int.toNat_natCast, List.getD, List.getElem?_reverse (by rw [List.length_map]; omega), List.length_map, show l.length - 1 - (l.length - 1 - k) = k by omega, List.getElem?_map, List.getD, List.getElem?_eq_getElem hk]
  rfl
theorem turnL_twice (F : Int) (l : List Th) : turnL F (turnL F l) = l := by
  unfold turnL
  rw [List.map_reverse, List.reverse_reverse, List.map_map]
  have e : turnT F ∘ turnT F = id := by
    funext x
    obtain ⟨k, p⟩ := x
    show Th.mk k (F - (F - p)) = Th.mk k p
    rw [show F - (F - p) = p by omega]
  rw [e, List.map_id]
theorem turnP_in {m s m' s' : List Th} {p : Int × Int} (hm : m'.length = m.length) (hs : s'.length = s.length) (h : inS m s p) : inS m' s' (turnP m s p) := by
  obtain ⟨⟨h1, h2⟩, h3, h4⟩ := h
  refine ⟨⟨?_, ?_⟩, ?_, ?_⟩ <;> simp only [turnP] <;> omega
theorem turnP_twice {m s m' s' : List Th} {p : Int × Int} (hm : m'.length = m.length) (hs : s'.length = s.length) : turnP m' s' (turnP m s p) = p := by
  obtain ⟨a, b⟩ := p
  show ((s'.length : Int) - 1 - ((s.length : Int) - 1 - a), (m'.length : Int) - 1 - ((m.length : Int) - 1 - b)) = (a, b)
  rw [show (s'.length : Int) - 1 - ((s.length : Int) - 1 - a) = a by omega, show (m'.length : Int) - 1 - ((m.length : Int) - 1 - b) = b by omega]
theorem turnPL_twice {m s m' s' : List Th} {l : List (Int × Int)} (hm : m'.length = m.length) (hs : s'.length = s.length) : turnPL m' s' (turnPL m s l) = l := by
  unfold turnPL
  rw [List.map_reverse, List.reverse_reverse, List.map_map]
  have e : turnP m' s' ∘ turnP m s = id := by
    funext p
    exact turnP_twice hm hs
  rw [e, List.map_id]

section
variable (F : Int) {m s : List Th}
theorem turn_alike {p : Int × Int} (h : inS m s p) : alikeS (turnL F m) (turnL F s) (turnP m s p) = alikeS m s p := by
  unfold alikeS turnP
  rw [turnL_at F s h.1.1 h.1.2, turnL_at F m h.2.1 h.2.2]
  rfl
theorem turn_grown (c : Cs) {p q : Int × Int} (hp : inS m s p) (hq : inS m s q) : grownS (turnL F m) (turnL F s) c (turnP m s q) (turnP m s p) = grownS m s c p q := by
  unfold grownS
  simp only [turnP]
  rw [turnL_at F s hp.1.1 hp.1.2, turnL_at F m hp.2.1 hp.2.2, turnL_at F s hq.1.1 hq.1.2, turnL_at F m hq.2.1 hq.2.2]
  show c.missed * _ + c.unseen * _ + c.stretch * max (F - _ - (F - _) - (F - _ - (F - _))) (F - _ - (F - _) - (F - _ - (F - _))) = _
  generalize (thAt m p.2).place = a
  generalize (thAt m q.2).place = b
  generalize (thAt s p.1).place = d
  generalize (thAt s q.1).place = e
  rw [show (s.length : Int) - 1 - p.1 - ((s.length : Int) - 1 - q.1) - 1 = q.1 - p.1 - 1 by omega, show (m.length : Int) - 1 - p.2 - ((m.length : Int) - 1 - q.2) - 1 = q.2 - p.2 - 1 by omega,
    show F - a - (F - b) - (F - d - (F - e)) = b - a - (e - d) by omega, show F - d - (F - e) - (F - a - (F - b)) = e - d - (b - a) by omega]
end

/-- An alignment as a list: all its pairs are of one kind, and they ascend. -/
theorem VP_iff {m s : List Th} : ∀ {l : List (Int × Int)} {b : Int × Int}, VP m s b l ↔ (∀ p ∈ l, okS b p ∧ inS m s p ∧ alikeS m s p = true) ∧ l.Pairwise okS
  | [], b => ⟨fun _ => ⟨fun p h => (by cases h), List.Pairwise.nil⟩, fun _ => trivial⟩
  | q :: l, b => by
    simp only [VP]
    rw [VP_iff, List.pairwise_cons]
    constructor
    · rintro ⟨h1, h2, h3, h4, h5⟩
      refine ⟨fun p hp => ?_, fun p hp => (h4 p hp).1, h5⟩
      rcases List.mem_cons.1 hp with rfl | hp
      · exact ⟨h1, h2, h3⟩
      · obtain ⟨g1, g2⟩ := h4 p hp
        refine ⟨?_, g2⟩
        unfold okS at h1 g1 ⊢
        omega
    · rintro ⟨h1, h2, h3⟩
      obtain ⟨g1, g2, g3⟩ := h1 q (List.mem_cons_self ..)
      exact ⟨g1, g2, g3, fun p hp => ⟨h2 p hp, (h1 p (List.mem_cons_of_mem _ hp)).2⟩, h3⟩
theorem turn_VP (F : Int) {m s : List Th} {l : List (Int × Int)} (h : VP m s (-1, -1) l) : VP (turnL F m) (turnL F s) (-1, -1) (turnPL m s l) := by
  obtain ⟨h1, h2⟩ := VP_iff.1 h
  refine VP_iff.2 ⟨fun p hp => ?_, ?_⟩
  · unfold turnPL at hp
    obtain ⟨q, hq, rfl⟩ := List.mem_map.1 (List.mem_reverse.1 hp)
    obtain ⟨_, g2, g3⟩ := h1 q hq
    have hin := turnP_in (turnL_len F m) (turnL_len F s) g2
    refine ⟨⟨by have := hin.1.1; show (-1 : Int) < _; omega, by have := hin.2.1; show (-1 : Int) < _; omega⟩, hin, ?_⟩
    rw [turn_alike F g2]
    exact g3
  · unfold turnPL
    rw [List.pairwise_reverse, List.pairwise_map]
    refine h2.imp fun {a b} hab => ?_
    unfold okS turnP at *
    dsimp only
    omega

def sumG (g : Int × Int → Int × Int → Int) : List (Int × Int) → Int
  | [] => 0
  | [_] => 0
  | p :: q :: l => g p q + sumG g (q :: l)
theorem sumG_snoc (g : Int × Int → Int × Int → Int) : ∀ (l : List (Int × Int)) (x y : Int × Int), sumG g (l ++ [x, y]) = sumG g (l ++ [x]) + g x y
  | [], x, y => by simp [sumG]
  | [p], x, y => by simp [sumG]
  | p :: q :: l, x, y => by
    have := sumG_snoc g (q :: l) x y
    simp only [List.cons_append, sumG] at this ⊢
    omega
theorem sumG_rev {g g' : Int × Int → Int × Int → Int} {f : Int × Int → Int × Int} : ∀ {l : List (Int × Int)}, (∀ p ∈ l, ∀ q ∈ l, g' (f q) (f p) = g p q) → sumG g' ((l.map f).reverse) = sumG g l
  | [], _ => rfl
  | [p], _ => rfl
  | p :: q :: l, h => by
    have ih := sumG_rev (g := g) (g' := g') (f := f) (l := q :: l) fun a ha b hb => h a (List.mem_cons_of_mem _ ha) b (List.mem_cons_of_mem _ hb)
    simp only [List.map_cons, List.reverse_cons, List.append_assoc, List.cons_append, List.nil_append] at ih ⊢
    rw [sumG_snoc, ih, h p (List.mem_cons_self ..) q (List.mem_cons_of_mem _ (List.mem_cons_self ..)), sumG]
    omega
theorem tailC_sum (m s : List Th) (c : Cs) : ∀ (l : List (Int × Int)) (p : Int × Int), tailC m s c p l = sumG (grownS m s c) (p :: l) + baseS s c ((p :: l).getLast (by simp))
  | [], p => by simp [tailC, sumG]
  | q :: l, p => by
    rw [tailC, tailC_sum m s c l q, sumG]
    rw [List.getLast_cons (List.cons_ne_nil q l)]
    omega
theorem costS_sum {m s : List Th} {c : Cs} {l : List (Int × Int)} (h : l ≠ []) : costS m s c l = c.missed * (l.head h).1 + sumG (grownS m s c) l + baseS s c (l.getLast h) := by
  cases l with
  | nil => exact absurd rfl h
  | cons p l =>
    rw [costS_cons, tailC_sum]
    show _ = c.missed * p.1 + _ + _
    omega
theorem turn_cost (F : Int) {m s : List Th} (c : Cs) {l : List (Int × Int)} (h : ∀ p ∈ l, inS m s p) : costS (turnL F m) (turnL F s) c (turnPL m s l) = costS m s c l := by
  cases l with
  | nil =>
    show costS _ _ c [] = costS _ _ c []
    rw [costS_nil, costS_nil, turnL_len]
  | cons p l =>
    have hne : turnPL m s (p :: l) ≠ [] := by unfold turnPL; simp
    rw [costS_sum hne, costS_sum (List.cons_ne_nil p l)]
    have e1 : sumG (grownS (turnL F m) (turnL F s) c) (turnPL m s (p :: l)) = sumG (grownS m s c) (p :: l) := sumG_rev fun a ha b hb => turn_grown F c (h a ha) (h b hb)
    have e2 : (turnPL m s (p :: l)).head hne = turnP m s ((p :: l).getLast (List.cons_ne_nil p l)) := by
      show ((p :: l).map (turnP m s)).reverse.head (by simp) = _
      rw [List.head_reverse, List.getLast_map]
    have e3 : (turnPL m s (p :: l)).getLast hne = turnP m s p := by
      show ((p :: l).map (turnP m s)).reverse.getLast (by simp) = _
      rw [List.getLast_reverse]
      rfl
    rw [e1, e2, e3]
    unfold baseS turnP
    dsimp only
    rw [turnL_len, show (s.length : Int) - 1 - ((s.length : Int) - 1 - p.1) = p.1 by omega]
    show _ = c.missed * p.1 + _ + _
    omega
theorem turn_least_le (F : Int) (m s : List Th) (c : Cs) : (headS (turnL F m) (turnL F s) c).cost ≤ (headS m s c).cost := by
  obtain ⟨h1, h2, _⟩ := align_att m s c
  have hin : ∀ p ∈ alignP m s c, inS m s p := fun p hp => ((VP_iff.1 h1).1 p hp).2.1
  have := align_low (c := c) (turn_VP F h1)
  rw [turn_cost F c hin, h2] at this
  omega
/-- Turned, the least alignment costs the same. -/
theorem turn_least (F : Int) (m s : List Th) (c : Cs) : (headS (turnL F m) (turnL F s) c).cost = (headS m s c).cost := by
  have h1 := turn_least_le F m s c
  have h2 := turn_least_le F (turnL F m) (turnL F s) c
  rw [turnL_twice, turnL_twice] at h2
  omega

end Go.Proofs.YtoopgdchiljmiaaGreatDoor
