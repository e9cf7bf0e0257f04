/- Chapter 5: of the least alignments the first one is told; a sure pair is in each of them. No code is walked here. -/
import Derived.Test.YtfmnfagcbehmdaaGreatDoorLa
import Derived.Test.YtfmnfagcbehmdaaGreatDoorKn
import Derived.Test.YtfmnfagcbehmdaaGreatDoorLc
set_option linter.unusedVariables false
set_option linter.unusedSimpArgs false
namespace Go.Proofs.YtfmnfagcbehmdaaGreatDoor
open Go.RowKit Go.Sym

/-! ### The first of the least alignments -/
theorem lexB_no {p q : Int × Int} (h : lexP q p) : lexB p q = false := by
 unfold lexB
 rcases h with h | ⟨h, h2⟩
 ·rw [decide_eq_false (by omega), decide_eq_false (by omega)]; rfl
 ·rw [decide_eq_false (by omega), decide_eq_true h.symm, decide_eq_false (by omega)]; rfl
section least
variable {m s : List Th} {c : Cs}
theorem less_tail : ∀ (l : List (Int × Int)) (f i : Nat), i < (allP m s).length → (allP m s).length ≤ i + f → VP m s (prAt (allP m s) i) l → tailC m s c (prAt (allP m s) i) l = (stAt (behindS m s c) i).cost → (l.length : Int) = (stAt (behindS m s c) i).many →
  lessL l (chainP (behindS m s c) f (stAt (behindS m s c) i).next) = false
 | [], f, i, _, _, _, _, _ => by unfold lessL; rfl
 | q :: l, 0, i, hi, hf, _, _, _ => by omega
 | q :: l, f + 1, i, hi, hf, hv, hc, hm => by
  obtain ⟨h1, h2, h3, h4⟩ := hv
  obtain ⟨k, hk, rfl⟩ := allP_at h2 h3
  have hik := allP_lt hi hk h1.1
  have hl := behindS_loc (c := c) hi
  have hlow := hl.low k hik hk (by rw [behindS_p hi, behindS_p hk]; exact h1)
  have ht := tail_low (c := c) l k hk h4
  simp only [tailC] at hc
  simp only [List.length_cons] at hm
  unfold viaS at hlow
  rw [behindS_p hi, behindS_p hk] at hlow
  rcases hl.att with ⟨_, _, a3⟩ | ⟨j, a1, a2, a3, a4, a5, a6, _, a8⟩
  ·omega
  ·have e : chainP (behindS m s c) (f + 1) (stAt (behindS m s c) i).next = prAt (allP m s) j :: chainP (behindS m s c) f (stAt (behindS m s c) j).next := by
    rw [a3]
    simp only [chainP]
    rw [if_pos (by omega), Int.toNat_natCast, behindS_p a2]
   rw [e]
   unfold lessL
   rcases Nat.lt_trichotomy k j with h5 | rfl | h5
   ·have h6 := a8 k hik h5 (by rw [behindS_p hi, behindS_p hk]; exact h1)
    unfold viaS at h6
    rw [behindS_p hi, behindS_p hk] at h6
    omega
   ·rw [if_pos rfl]
    exact less_tail l f k hk (by omega) h4 (by omega) (by omega)
   ·rw [if_neg (fun h => by have := allP_uniq hk a2 h; omega)]
    exact lexB_no (allP_lex a2 hk h5)
/-- No least alignment of as many pairs is before the one that is told. -/
theorem less_no {l : List (Int × Int)} (h : VP m s (-1, -1) l) (hc : costS m s c l = (headS m s c).cost) (hl : l.length = (alignP m s c).length) : lessL l (alignP m s c) = false := by
 have hh := headB_loc s c (behindS m s c) (allP m s).length
 have hal := (align_att m s c).2.2
 cases l with
 | nil => unfold lessL; rfl
 | cons p l =>
  obtain ⟨h1, h2, h3, h4⟩ := h
  obtain ⟨k, hk, rfl⟩ := allP_at h2 h3
  have ht := tail_low (c := c) l k hk h4
  have hlow := hh.low k hk
  rw [behindS_p hk] at hlow
  rw [costS_cons] at hc
  rw [List.length_cons] at hl
  change ¬ (_ < (headS m s c).cost ∨ (_ = (headS m s c).cost ∧ (headS m s c).many < _)) at hlow
  rcases hh.att with ⟨a1, a2, a3⟩ | ⟨i, a1, a2, a3, a4, _, a6⟩
  ·have a3 : (headS m s c).many = 0 := a3
   omega
  ·have e : alignP m s c = prAt (allP m s) i :: chainP (behindS m s c) (allP m s).length (stAt (behindS m s c) i).next := by
    unfold alignP
    rw [show (headS m s c).next = i from a2]
    simp only [chainP]
    rw [if_pos (by omega), Int.toNat_natCast, behindS_p a1]
   have a3 : (headS m s c).cost = _ := a3
   have a4 : (headS m s c).many = _ := a4
   rw [e]
   unfold lessL
   rcases Nat.lt_trichotomy k i with h5 | rfl | h5
   ·have h6 := a6 k h5
    rw [behindS_p hk] at h6
    change (headS m s c).cost < _ ∨ ((headS m s c).cost = _ ∧ _ < (headS m s c).many) at h6
    omega
   ·rw [if_pos rfl]
    rw [behindS_p hk] at a3
    exact less_tail l _ k hk (by omega) h4 (by omega) (by omega)
   ·rw [if_neg (fun h => by have := allP_uniq hk a1 h; omega)]
    exact lexB_no (allP_lex a1 hk h5)

/-! ### What is left out, and how many lie on the least alignments -/
theorem getDB_set (l : List Bool) (k q : Nat) (v : Bool) : (l.set k v).getD q false = if q = k ∧ k < l.length then v else l.getD q false := by
 rw [List.getD_eq_getElem?_getD, List.getElem?_set]
 by_cases h : k = q
 ·subst h
  by_cases h2 : k < l.length
  ·simp [h2]
  ·simp [h2]
 ·rw [if_neg h, if_neg (by omega), ← List.getD_eq_getElem?_getD]
theorem fillB_at (B : List Bool) (a : Nat) {q : Nat} (hq : q < B.length) : ∀ j, (B.getD q false = true ∨ (a ≤ q ∧ q < a + j)) → (fillB B a j).getD q false = true
 | 0, h => by rcases h with h | h; exact h; omega
 | j + 1, h => by
  show ((fillB B a j).set (a + j) true).getD q false = true
  rw [getDB_set]
  split
  ·rfl
  ·rename_i h2
   rw [fillB_len] at h2
   refine fillB_at B a hq j ?_
   rcases h with h | h
   ·exact .inl h
   ·exact .inr (by omega)
theorem leaveB_keep (B : List Bool) (x y : Int) {q : Nat} (hq : q < B.length) (h : B.getD q false = true) : (leaveB B x y).getD q false = true := fillB_at B _ hq _ (.inl h)
theorem leaveB_in (B : List Bool) {x y : Int} {q : Nat} (hq : q < B.length) (hx : -1 ≤ x) (h1 : x < q) (h2 : (q : Int) < y) : (leaveB B x y).getD q false = true := fillB_at B _ hq _ (.inr (by omega))
theorem endB_keep (L : List St) (A : List Int) (n : Int) (i : Nat) {B : List Bool} {q : Nat} (hq : q < B.length) (h : B.getD q false = true) : (endB s c L A n i B).getD q false = true := by
 unfold endB
 dsimp only
 have h1 : (if c.missed * (stAt L i).p.1 + (stAt L i).cost = n then leaveB B (-1) (stAt L i).p.1 else B).getD q false = true := by
  split
  ·exact leaveB_keep _ _ _ hq h
  ·exact h
 split
 ·exact leaveB_keep _ _ _ (by split <;> first | exact hq | (rw [leaveB_len]; exact hq)) h1
 ·exact h1
theorem endB_front {L : List St} {A : List Int} {n : Int} {i : Nat} {B : List Bool} {q : Nat} (hq : q < B.length) (h1 : c.missed * (stAt L i).p.1 + (stAt L i).cost = n) (h2 : (q : Int) < (stAt L i).p.1) : (endB s c L A n i B).getD q false = true := by
 unfold endB
 dsimp only
 rw [if_pos h1]
 have := leaveB_in B (x := -1) hq (by omega) (by omega) h2
 split
 ·exact leaveB_keep _ _ _ (by rw [leaveB_len]; exact hq) this
 ·exact this
theorem endB_back {L : List St} {A : List Int} {n : Int} {i : Nat} {B : List Bool} {q : Nat} (hq : q < B.length) (hs : B.length = s.length) (h1 : A.getD i 0 + c.missed * (s.length - 1 - (stAt L i).p.1) = n) (h0 : -1 ≤ (stAt L i).p.1) (h2 : (stAt L i).p.1 < (q : Int)) : (endB s c L A n i B).getD q false = true := by
 unfold endB
 dsimp only
 rw [if_pos h1]
 exact leaveB_in _ (by split <;> first | exact hq | (rw [leaveB_len]; exact hq)) h0 h2 (by omega)
theorem innB_keep (L : List St) (A : List Int) (n : Int) (i : Nat) {B : List Bool} {q : Nat} (hq : q < B.length) (h : B.getD q false = true) : ∀ k, (innB m s c L A n i B k).getD q false = true
 | 0 => h
 | k + 1 => by
  have ih := innB_keep L A n i hq h k
  unfold innB
  split
  ·exact leaveB_keep _ _ _ (by rw [innB_len]; exact hq) ih
  ·exact ih
theorem innB_mid {L : List St} {A : List Int} {n : Int} {i k : Nat} {B : List Bool} {q : Nat} (hq : q < B.length) (h1 : befS (stAt L k) (stAt L i) = true) (h2 : A.getD k 0 + grownS m s c (stAt L k).p (stAt L i).p + (stAt L i).cost = n) (h0 : -1 ≤ (stAt L k).p.1) (h3 : (stAt L k).p.1 < (q : Int)) (h4 : (q : Int) < (stAt L i).p.1) :
  ∀ j, k < j → (innB m s c L A n i B j).getD q false = true
 | 0, h => by omega
 | j + 1, h => by
  unfold innB
  by_cases e : j = k
  ·subst e
   rw [if_pos ⟨h1, h2⟩]
   exact leaveB_in _ (by rw [innB_len]; exact hq) h0 h3 h4
  ·have ih := innB_mid hq h1 h2 h0 h3 h4 j (by omega)
   split
   ·exact leaveB_keep _ _ _ (by rw [innB_len]; exact hq) ih
   ·exact ih
theorem leftB_keep (L : List St) (A : List Int) (n : Int) {q i : Nat} (hq : q < s.length) (h : (leftB m s c L A n i).getD q false = true) : ∀ j, i ≤ j → (leftB m s c L A n j).getD q false = true
 | 0, hj => by
  obtain rfl : i = 0 := by omega
  exact h
 | j + 1, hj => by
  by_cases e : i = j + 1
  ·rw [← e]; exact h
  ·have ih := leftB_keep L A n hq h j (by omega)
   unfold leftB
   split
   ·exact innB_keep _ _ _ _ (by rw [endB_len, leftB_len]; exact hq) (endB_keep _ _ _ _ (by rw [leftB_len]; exact hq) ih) _
   ·exact ih
theorem leftB_front {L : List St} {A : List Int} {n : Int} {q i N : Nat} (hi : i < N) (ho : onB L A n i = true) (hq : q < s.length) (h1 : c.missed * (stAt L i).p.1 + (stAt L i).cost = n) (h2 : (q : Int) < (stAt L i).p.1) : (leftB m s c L A n N).getD q false = true := by
 refine leftB_keep L A n hq (i := i + 1) ?_ N (by omega)
 unfold leftB
 rw [if_pos ho]
 exact innB_keep _ _ _ _ (by rw [endB_len, leftB_len]; exact hq) (endB_front (by rw [leftB_len]; exact hq) h1 h2) _
theorem leftB_back {L : List St} {A : List Int} {n : Int} {q i N : Nat} (hi : i < N) (ho : onB L A n i = true) (hq : q < s.length) (h1 : A.getD i 0 + c.missed * (s.length - 1 - (stAt L i).p.1) = n) (h0 : -1 ≤ (stAt L i).p.1) (h2 : (stAt L i).p.1 < (q : Int)) : (leftB m s c L A n N).getD q false = true := by
 refine leftB_keep L A n hq (i := i + 1) ?_ N (by omega)
 unfold leftB
 rw [if_pos ho]
 exact innB_keep _ _ _ _ (by rw [endB_len, leftB_len]; exact hq) (endB_back (by rw [leftB_len]; exact hq) (leftB_len _ _ _ _ _ _ _) h1 h0 h2) _
theorem leftB_mid {L : List St} {A : List Int} {n : Int} {q i k N : Nat} (hi : i < N) (hk : k < i) (ho : onB L A n i = true) (hq : q < s.length) (h1 : befS (stAt L k) (stAt L i) = true) (h2 : A.getD k 0 + grownS m s c (stAt L k).p (stAt L i).p + (stAt L i).cost = n) (h0 : -1 ≤ (stAt L k).p.1) (h3 : (stAt L k).p.1 < (q : Int)) (h4 : (q : Int) < (stAt L i).p.1) : (leftB m s c L A n N).getD q false = true := by
 refine leftB_keep L A n hq (i := i + 1) ?_ N (by omega)
 unfold leftB
 rw [if_pos ho]
 exact innB_mid (by rw [endB_len, leftB_len]; exact hq) h1 h2 h0 h3 h4 i hk
theorem manyM_step (L : List St) (A : List Int) (n : Int) (q i : Nat) : (manyM s L A n i).getD q 0 ≤ (manyM s L A n (i + 1)).getD q 0 ∧
  (onB L A n i = true → (stAt L i).p.1.toNat = q → q < s.length → (manyM s L A n (i + 1)).getD q 0 = (manyM s L A n i).getD q 0 + 1) := by
 have hl := manyM_len s L A n i
 show _ ≤ (if onB L A n i = true then (manyM s L A n i).set (stAt L i).p.1.toNat ((manyM s L A n i).getD (stAt L i).p.1.toNat 0 + 1) else manyM s L A n i).getD q 0 ∧ (_ → _ → _ → (if onB L A n i = true then (manyM s L A n i).set (stAt L i).p.1.toNat ((manyM s L A n i).getD (stAt L i).p.1.toNat 0 + 1) else manyM s L A n i).getD q 0 = _)
 constructor
 ·split
  ·rw [getD_set]
   split
   ·rename_i h; rw [h.1]; omega
   ·exact Int.le_refl _
  ·exact Int.le_refl _
 ·intro ho h1 h2
  rw [if_pos ho, getD_set, if_pos ⟨h1.symm, by rw [hl, h1]; exact h2⟩, h1]
theorem manyM_mono (L : List St) (A : List Int) (n : Int) (q : Nat) {i j : Nat} (h : i ≤ j) : (manyM s L A n i).getD q 0 ≤ (manyM s L A n j).getD q 0 := by
 induction j with
 | zero =>
  obtain rfl : i = 0 := by omega
  exact Int.le_refl _
 | succ j ih =>
  by_cases e : i = j + 1
  ·rw [e]; exact Int.le_refl _
  ·exact Int.le_trans (ih (by omega)) (manyM_step L A n q j).1
theorem manyM_two {L : List St} {A : List Int} {n : Int} {q i j N : Nat} (hij : i < j) (hj : j < N) (hi : onB L A n i = true) (ho : onB L A n j = true) (h1 : (stAt L i).p.1.toNat = q) (h2 : (stAt L j).p.1.toNat = q) (hq : q < s.length) : 2 ≤ (manyM s L A n N).getD q 0 := by
 have a1 := (manyM_bound s L A n q i).1
 have a2 := (manyM_step (s := s) L A n q i).2 hi h1 hq
 have a3 := manyM_mono (s := s) L A n q (show i + 1 ≤ j by omega)
 have a4 := (manyM_step (s := s) L A n q j).2 ho h2 hq
 have a5 := manyM_mono (s := s) L A n q (show j + 1 ≤ N by omega)
 omega

/-! ### A sure pair is in each least alignment -/
theorem gap {q : Int} : ∀ l : List (Int × Int), l = [] ∨ (∃ l1 p r, l = l1 ++ p :: r ∧ p.1 = q) ∨ (∃ p r, l = p :: r ∧ q < p.1) ∨ (∃ l1 p, l = l1 ++ [p] ∧ p.1 < q) ∨ ∃ l1 a b r, l = l1 ++ a :: b :: r ∧ a.1 < q ∧ q < b.1
 | [] => .inl rfl
 | a :: l => by
  by_cases h1 : a.1 = q
  ·exact .inr (.inl ⟨[], a, l, rfl, h1⟩)
  ·by_cases h2 : q < a.1
   ·exact .inr (.inr (.inl ⟨a, l, rfl, h2⟩))
   ·have h3 : a.1 < q := by omega
    rcases gap l with rfl | ⟨l1, p, r, rfl, h⟩ | ⟨p, r, rfl, h⟩ | ⟨l1, p, rfl, h⟩ | ⟨l1, x, y, r, rfl, h⟩
    ·exact .inr (.inr (.inr (.inl ⟨[], a, rfl, h3⟩)))
    ·exact .inr (.inl ⟨a :: l1, p, r, rfl, h⟩)
    ·exact .inr (.inr (.inr (.inr ⟨[], a, p, r, rfl, h3, h⟩)))
    ·exact .inr (.inr (.inr (.inl ⟨a :: l1, p, rfl, h⟩)))
    ·exact .inr (.inr (.inr (.inr ⟨a :: l1, x, y, r, rfl, h⟩)))
theorem ent_ahA (hf : AFit m s c) {k : Nat} (hk : k < (allP m s).length) : ent (tabF m s c) (prAt (allP m s) k) = ahA m s c k := by
 obtain ⟨d1, d2, d3⟩ := cast_pair (allP_in (m := m) (s := s) k hk)
 rcases tabF_at hf (i := (prAt (allP m s) k).1.toNat) d3 with ⟨g0, _⟩ | ⟨g0, _⟩ | ⟨j2, hj3, hp2, g⟩
 ·have hal := allP_alike (m := m) (s := s) hk
  rw [d1, g0] at hal; cases hal
 ·omega
 ·rw [← d1] at hp2
  rw [allP_uniq hj3 hk hp2] at g
  exact g
theorem front_ge (hf : AFit m s c) {l : List (Int × Int)} {k : Nat} (hk : k < (allP m s).length) (h : VP m s (-1, -1) (l ++ [prAt (allP m s) k])) : ahA m s c k ≤ frontC m s c l (prAt (allP m s) k) := by
 rw [← ent_ahA hf hk]
 exact under_front (under_of hf (tabF_ok hf) (tabF_proves hf)) l _ h
theorem tail_ge {l : List (Int × Int)} {k : Nat} (hk : k < (allP m s).length) (h : VP m s (prAt (allP m s) k) l) : (stAt (behindS m s c) k).cost ≤ tailC m s c (prAt (allP m s) k) l := by
 have := tail_low (c := c) l k hk h
 omega
theorem on_ge (hf : AFit m s c) {k : Nat} (hk : k < (allP m s).length) : (headS m s c).cost ≤ ahA m s c k + (stAt (behindS m s c) k).cost := by
 obtain ⟨l, h1, h2⟩ := ahA_att hf k hk
 have := both_ge (c := c) hk h1
 rw [h2] at this
 exact this
theorem sure_in (hf : AFit m s c) {i : Nat} (hi : i < (allP m s).length) (hb : sureB m s c (behindS m s c) (aheadS m s c (behindS m s c)) (headS m s c).cost (allP m s).length i = true) (hn : (headS m s c).cost ≠ c.missed * s.length)
  {l : List (Int × Int)} (hv : VP m s (-1, -1) l) (hc : costS m s c l = (headS m s c).cost) : prAt (allP m s) i ∈ l := by
 have hpi := behindS_p (c := c) hi
 have hin := allP_in (m := m) (s := s) i hi
 have hon : ∀ {k}, k < (allP m s).length → ahA m s c k + (stAt (behindS m s c) k).cost ≤ (headS m s c).cost → onB (behindS m s c) (aheadS m s c (behindS m s c)) (headS m s c).cost k = true := fun {k} hk h => decide_eq_true (Int.le_antisymm h (on_ge hf hk))
 obtain ⟨q, hqe⟩ : ∃ q, (prAt (allP m s) i).1.toNat = q := ⟨_, rfl⟩
 have hq : q < s.length := by have := hin.1; omega
 have hq2 : (prAt (allP m s) i).1 = (q : Int) := by have := hin.1; omega
 have hbb : onB (behindS m s c) (aheadS m s c (behindS m s c)) (headS m s c).cost i = true ∧ (manyM s (behindS m s c) (aheadS m s c (behindS m s c)) (headS m s c).cost (allP m s).length).getD q 0 = 1 ∧ (leftB m s c (behindS m s c) (aheadS m s c (behindS m s c)) (headS m s c).cost (allP m s).length).getD q false = false := by
  unfold sureB at hb
  rw [hpi, hqe] at hb
  cases e1 : onB (behindS m s c) (aheadS m s c (behindS m s c)) (headS m s c).cost i with
  | false => rw [e1] at hb; cases hb
  | true =>
   rw [e1, cond_true] at hb
   by_cases e2 : (manyM s (behindS m s c) (aheadS m s c (behindS m s c)) (headS m s c).cost (allP m s).length).getD q 0 = 1
   ·rw [decide_eq_true e2, cond_true] at hb
    exact ⟨rfl, e2, by simpa using hb⟩
   ·rw [decide_eq_false e2] at hb; cases hb
 obtain ⟨b1, b2, b3⟩ := hbb
 have hno : ∀ {P : Prop}, (leftB m s c (behindS m s c) (aheadS m s c (behindS m s c)) (headS m s c).cost (allP m s).length).getD q false = true → P := fun h => by rw [b3] at h; cases h
 rcases gap (q := (q : Int)) l with rfl | ⟨l1, p, r, rfl, h⟩ | ⟨p, r, rfl, h⟩ | ⟨l1, p, rfl, h⟩ | ⟨l1, x, y, r, rfl, h1, h2⟩
 ·exact absurd hc.symm (by rw [costS_nil]; exact hn)
 ·obtain ⟨v1, v2⟩ := VP_append.1 hv
  have hp := VP_last v1
  obtain ⟨j, hj, rfl⟩ := allP_at hp.1 hp.2
  rw [cost_split] at hc
  have g1 := front_ge hf hj v1
  have g2 := tail_ge (c := c) hj v2
  have ho := hon hj (by omega)
  have hji : j = i := by
   have hpj := behindS_p (c := c) hj
   rcases Nat.lt_trichotomy j i with h3 | h3 | h3
   ·have := manyM_two (s := s) h3 hi ho b1 (by rw [hpj, h]; exact Int.toNat_natCast q) (by rw [hpi, hq2]; exact Int.toNat_natCast q) hq
    omega
   ·exact h3
   ·have := manyM_two (s := s) h3 hj b1 ho (by rw [hpi, hq2]; exact Int.toNat_natCast q) (by rw [hpj, h]; exact Int.toNat_natCast q) hq
    omega
  rw [hji]
  exact List.mem_append.2 (.inr (List.mem_cons_self ..))
 ·obtain ⟨v1, v2, v3, v4⟩ := hv
  obtain ⟨j, hj, rfl⟩ := allP_at v2 v3
  rw [costS_cons] at hc
  have g2 := tail_ge (c := c) hj v4
  have g3 := both_ge (c := c) (l := []) hj ⟨v1, v2, v3, trivial⟩
  have g3 : (headS m s c).cost ≤ c.missed * (prAt (allP m s) j).1 + (stAt (behindS m s c) j).cost := g3
  have g4 := (ahA_char hf hj).1
  have hpj := behindS_p (c := c) hj
  exact hno (leftB_front hj (hon hj (by omega)) hq (by rw [hpj]; omega) (by rw [hpj]; exact h))
 ·have hp := VP_last hv
  obtain ⟨j, hj, rfl⟩ := allP_at hp.1 hp.2
  rw [cost_split] at hc
  have hc : frontC m s c l1 (prAt (allP m s) j) + baseS s c (prAt (allP m s) j) = (headS m s c).cost := hc
  have g1 := front_ge hf hj hv
  have hpj := behindS_p (c := c) hj
  have g2 := (behindS_loc (c := c) hj).base
  rw [hpj] at g2
  obtain ⟨l2, w1, w2⟩ := ahA_att hf j hj
  have g3 := least_of (c := c) w1
  rw [cost_split, w2] at g3
  have g3 : (headS m s c).cost ≤ ahA m s c j + baseS s c (prAt (allP m s) j) := g3
  refine hno (leftB_back hj (hon hj (by omega)) hq ?_ (by rw [hpj]; have := hp.1.1; omega) (by rw [hpj]; exact h))
  rw [hpj]
  show ahA m s c j + baseS s c (prAt (allP m s) j) = _
  omega
 ·obtain ⟨v1, v2⟩ := VP_append.1 hv
  have hp := VP_last v1
  obtain ⟨k, hk, rfl⟩ := allP_at hp.1 hp.2
  obtain ⟨u1, u2, u3, u4⟩ := v2
  obtain ⟨j, hj, rfl⟩ := allP_at u2 u3
  rw [cost_split] at hc
  simp only [tailC] at hc
  have g1 := front_ge hf hk v1
  have g2 := tail_ge (c := c) hj u4
  have g4 := (ahA_char hf hj).2.1 k hk u1
  obtain ⟨l2, w1, w2⟩ := ahA_att hf k hk
  have g3 := both_ge (c := c) hj (VP_snoc w1 u1 u2 u3)
  rw [frontC_snoc, w2] at g3
  have hpj := behindS_p (c := c) hj
  have hpk := behindS_p (c := c) hk
  refine hno (leftB_mid hj (allP_lt hk hj u1.1) (hon hj (by omega)) hq ((befS_pairs hj hk).2 u1) ?_ (by rw [hpk]; have := hp.1.1; omega) (by rw [hpk]; exact h1) (by rw [hpj]; exact h2))
  rw [hpj, hpk]
  show ahA m s c k + _ + _ = _
  omega
theorem sureP_mem {L : List St} {A : List Int} {n : Int} {N : Nat} {p : Int × Int} : ∀ {k : Nat}, p ∈ sureP m s c L A n N k → ∃ i, i < k ∧ sureB m s c L A n N i = true ∧ (stAt L i).p = p
 | 0, h => by cases h
 | k + 1, h => by
  unfold sureP at h
  split at h
  ·rename_i hb
   rcases List.mem_append.1 h with h | h
   ·obtain ⟨i, h1, h2⟩ := sureP_mem h
    exact ⟨i, by omega, h2⟩
   ·rw [List.mem_singleton] at h
    exact ⟨k, by omega, hb, h.symm⟩
  ·obtain ⟨i, h1, h2⟩ := sureP_mem h
   exact ⟨i, by omega, h2⟩
/-- A sure pair is in each alignment of the least cost. -/
theorem sure_all (h0 : aligE m s c = 0) {p : Int × Int} (hp : p ∈ sureL m s c) {l : List (Int × Int)} (hv : VP m s (-1, -1) l) (hc : costS m s c l = (headS m s c).cost) : p ∈ l := by
 have hf := afit_of h0
 unfold sureL at hp
 rw [if_neg (by rw [h0]; decide)] at hp
 split at hp
 ·cases hp
 ·rename_i hn
  rw [beh_len hf] at hp
  obtain ⟨i, hi, hb, rfl⟩ := sureP_mem hp
  rw [behindS_p hi]
  exact sure_in hf hi hb hn hv hc
theorem len_le : ∀ {a b : List (Int × Int)}, a.Pairwise (· ≠ ·) → (∀ x ∈ a, x ∈ b) → a.length ≤ b.length
 | [], _, _, _ => Nat.zero_le _
 | x :: a, b, h, hs => by
  obtain ⟨h1, h2⟩ := List.pairwise_cons.1 h
  have hx := hs x (List.mem_cons_self ..)
  have := len_le (b := b.erase x) h2 fun y hy => (List.mem_erase_of_ne (h1 y hy).symm).2 (hs y (List.mem_cons_of_mem _ hy))
  rw [List.length_erase_of_mem hx] at this
  have : 0 < b.length := List.length_pos_of_mem hx
  simp only [List.length_cons]
  omega
theorem sureP_lex {A : List Int} {n : Int} {N : Nat} : ∀ {k : Nat}, k ≤ (allP m s).length → (sureP m s c (behindS m s c) A n N k).Pairwise (· ≠ ·)
 | 0, _ => List.Pairwise.nil
 | k + 1, hk => by
  have ih := sureP_lex (A := A) (n := n) (N := N) (k := k) (by omega)
  unfold sureP
  split
  ·refine List.pairwise_append.2 ⟨ih, List.pairwise_singleton _ _, fun a ha b hb => ?_⟩
   rw [List.mem_singleton] at hb
   obtain ⟨i, h1, _, rfl⟩ := sureP_mem ha
   rw [hb, behindS_p (by omega), behindS_p (by omega)]
   intro e
   have := allP_uniq (m := m) (s := s) (by omega) (by omega) e
   omega
  ·exact ih
theorem sure_len (h0 : aligE m s c = 0) : (sureL m s c).length ≤ (alignP m s c).length := by
 obtain ⟨h1, h2, _⟩ := align_att m s c
 refine len_le ?_ fun p hp => sure_all h0 hp h1 h2
 unfold sureL
 rw [if_neg (by rw [h0]; decide)]
 split
 ·exact List.Pairwise.nil
 ·exact sureP_lex (by rw [beh_len (afit_of h0)]; exact Nat.le_refl _)

/-! ### An alignment without one of its pairs -/
theorem checkPairs_zero {m s : List Th} {l : List (Int × Int)} : checkPairsS m s l = 0 ↔ rideS m s = 0 ∧ l.length ≤ 64 ∧ VP m s (-1, -1) l := by
 have hf : frontS m s l = 0 ↔ rideS m s = 0 ∧ l.length ≤ 64 := by
  unfold frontS
  rw [firstS_cons, firstS_cons, whenS_zero (by decide)]
  simp [firstS]
  omega
 unfold checkPairsS
 by_cases h : frontS m s l = 0
 ·rw [if_pos h, pairsS_iff]
  have := hf.1 h
  exact ⟨fun hv => ⟨this.1, this.2, hv⟩, fun hv => hv.2.2⟩
 ·rw [if_neg h]
  exact ⟨fun h' => absurd h' h, fun hv => absurd (hf.2 ⟨hv.1, hv.2.1⟩) h⟩
theorem okS_trans {a b d : Int × Int} (h1 : okS a b) (h2 : okS b d) : okS a d := ⟨by have := h1.1; have := h2.1; omega, by have := h1.2; have := h2.2; omega⟩
theorem VP_mono : ∀ {l : List (Int × Int)} {a b : Int × Int}, okS a b → VP m s b l → VP m s a l
 | [], _, _, _, _ => trivial
 | p :: l, a, b, h, ⟨h1, h2, h3, h4⟩ => ⟨okS_trans h h1, h2, h3, h4⟩
theorem VP_filter (f : Int × Int → Bool) : ∀ {l : List (Int × Int)} {b : Int × Int}, VP m s b l → VP m s b (l.filter f)
 | [], _, _ => trivial
 | p :: l, b, ⟨h1, h2, h3, h4⟩ => by
  rw [List.filter_cons]
  split
  ·exact ⟨h1, h2, h3, VP_filter f h4⟩
  ·exact VP_mono h1 (VP_filter f h4)
theorem VP_gt : ∀ {l : List (Int × Int)} {b p : Int × Int}, VP m s b l → p ∈ l → okS b p
 | [], _, _, _, h => by cases h
 | q :: l, b, p, ⟨h1, h2, h3, h4⟩, h => by
  rcases List.mem_cons.1 h with rfl | h
  ·exact h1
  ·exact okS_trans h1 (VP_gt h4 h)
theorem VP_len : ∀ {l : List (Int × Int)} {b : Int × Int}, VP m s b l → b.1 < s.length → b.1 + l.length < s.length
 | [], b, _, h => by simp only [List.length_nil]; omega
 | q :: l, b, ⟨h1, h2, h3, h4⟩, h => by
  have := VP_len h4 h2.1.2
  have := h1.1
  simp only [List.length_cons]
  omega
def without (p : Int × Int) (l : List (Int × Int)) : List (Int × Int) := l.filter fun y => decide (y ≠ p)
theorem without_len {p : Int × Int} : ∀ {l : List (Int × Int)} {b : Int × Int}, VP m s b l → p ∈ l → (without p l).length + 1 = l.length
 | [], _, _, h => by cases h
 | q :: l, b, ⟨h1, h2, h3, h4⟩, h => by
  unfold without
  rw [List.filter_cons]
  by_cases e : q = p
  ·subst e
   rw [if_neg (by simp), List.length_cons]
   have : l.filter (fun y => decide (y ≠ q)) = l := List.filter_eq_self.2 fun y hy => decide_eq_true fun e => by
    subst e
    have := (VP_gt h4 hy).1
    omega
   rw [this]
  ·rw [if_pos (by simpa using e)]
   rcases List.mem_cons.1 h with h | h
   ·exact absurd h.symm e
   ·have := without_len h4 h
    unfold without at this
    simp only [List.length_cons]
    omega
/-- What is left of the least alignment without a sure pair costs more. -/
theorem without_more (h0 : aligE m s c = 0) {p : Int × Int} (hp : p ∈ sureL m s c) : VP m s (-1, -1) (without p (alignP m s c)) ∧ (without p (alignP m s c)).length + 1 = (alignP m s c).length ∧ (headS m s c).cost < costS m s c (without p (alignP m s c)) := by
 obtain ⟨h1, h2, _⟩ := align_att m s c
 have hm := sure_all h0 hp h1 h2
 have hv : VP m s (-1, -1) (without p (alignP m s c)) := VP_filter _ h1
 refine ⟨hv, without_len h1 hm, ?_⟩
 have h3 := least_of (c := c) hv
 have hne : costS m s c (without p (alignP m s c)) ≠ (headS m s c).cost := fun e => by
  have := sure_all h0 hp hv e
  unfold without at this
  rw [List.mem_filter] at this
  simp at this
 omega
end least

end Go.Proofs.YtfmnfagcbehmdaaGreatDoor
