/- Chapter 5: what AlignProved asks. No code is walked here. -/
import Derived.Test.YtfmnfagcbehmdaaGreatDoorLb
set_option linter.unusedVariables false
set_option linter.unusedSimpArgs false
namespace Go.Proofs.YtfmnfagcbehmdaaGreatDoor
open Go.RowKit Go.Sym

theorem costE_iff {m s : List Th} {c : Cs} {l : List (Int × Int)} (h0 : aligE m s c = 0) : costE m s c l = 0 ↔ l.length ≤ 64 ∧ VP m s (-1, -1) l := by
 unfold aligE at h0
 rw [firstS_cons, firstS_cons] at h0
 obtain ⟨h1, h2, _⟩ := h0
 unfold costE
 rw [firstS_cons, firstS_cons, firstS_cons, checkPairs_zero]
 constructor
 ·rintro ⟨_, _, ⟨_, h3, h4⟩, _⟩; exact ⟨h3, h4⟩
 ·rintro ⟨h3, h4⟩; exact ⟨h1, h2, ⟨h1, h3, h4⟩, rfl⟩
theorem ctE_ok {m s : List Th} {c : Cs} {n : Nat} {R : Nat → List Int} (h0 : aligE m s c = 0) : ctE m s c n R = if ctS m s n R ≠ 0 then ctS m s n R else if provesS m s c n R = false then 19 else 0 := if_neg (by rw [h0]; decide)
theorem ctS_of {m s : List Th} {R : Nat → List Int} (h : TabOk m s s.length R) : ctS m s s.length R = 0 :=
 ctS_good rfl h.hlen fun e he k hk => outB_no.2 (h.hrg e he k)
theorem raise_cells (T : Nat → List Int) (i k q : Nat) : (Cont.ints .i64 (raiseF T i k q)).cells = (if q = i then Cont.ints .i64 ((T i).set k ((T i).getD k 0 + 1)) else Cont.ints .i64 (T q)).cells := by
 unfold raiseF
 split <;> rfl

theorem without_step (p : Int × Int) {l : List (Int × Int)} {k : Nat} (h : k < l.length) : without p (l.take (k + 1)) = if l.getD k (0, 0) = p then without p (l.take k) else without p (l.take k) ++ [l.getD k (0, 0)] := by
 rw [take_snoc l (0, 0) k h]
 generalize l.getD k (0, 0) = x
 unfold without
 rw [List.filter_append]
 by_cases e : x = p
 ·rw [if_pos e]; simp [e]
 ·rw [if_neg e]; simp [e]
structure PrF (m s : List Th) (c : Cs) (l : List (Int × Int)) (n : Nat) (R : Nat → List Int) (AL : List (Int × Int)) (n0 : Int) (T : Nat → List Int) (S : List (Int × Int)) : Prop where
 al : aligL m s c = AL
 an : aligN m s c = n0
 nb : 0 ≤ n0 ∧ n0 ≤ 64000
 ll : AL.length ≤ 8
 ce : costE m s c AL = 0
 cr : costR m s c AL = n0
 tn : tabN m s c = s.length
 tf : tabF m s c = T
 tl : ∀ e, (T e).length = m.length
 ts : ∀ e k, -1 ≤ (T e).getD k 0 ∧ (T e).getD k 0 ≤ 64000
 te : ctE m s c s.length T = 0
 tb : ctN m s c s.length T = n0
 cs : ctS m s s.length T = 0
 rp : rpairsS m s AL = 0
 o1 : costE m s c l = 0 → ¬ costR m s c l < n0 ∧ (costR m s c l = n0 → ¬ AL.length < l.length ∧ (l.length = AL.length → lessL l AL = false))
 o2 : ctE m s c n R = 0 → ¬ n0 < ctN m s c n R
 ra : ∀ i k, i < s.length → k < m.length → 0 ≤ (T i).getD k 0 → ctE m s c s.length (raiseF T i k) = 19
 sl : sureL m s c = S
 se : S.length ≤ AL.length
 sw : ∀ p ∈ S, costE m s c (without p AL) = 0 ∧ (without p AL).length + 1 = AL.length ∧ n0 < costR m s c (without p AL)
theorem proved {m s : List Th} {c : Cs} {l : List (Int × Int)} {n : Nat} {R : Nat → List Int} (h0 : aligE m s c = 0) (hs : s.length ≤ 8) : ∃ AL n0 T S, PrF m s c l n R AL n0 T S := by
 have hf := afit_of h0
 obtain ⟨a1, a2, a3⟩ := align_att m s c
 have hlen := VP_len a1 (show (-1 : Int) < s.length by omega)
 have hl8 : (alignP m s c).length ≤ 8 := by
  have : (-1 : Int) + (alignP m s c).length < s.length := hlen
  omega
 have hE : ∀ {l}, costE m s c l = 0 → costR m s c l = costS m s c l := fun h => if_pos h
 have hAE : costE m s c (alignP m s c) = 0 := (costE_iff h0).2 ⟨by omega, a1⟩
 have hAR : costR m s c (alignP m s c) = (headS m s c).cost := by rw [hE hAE, a2]
 have hts := ctS_of (tabF_ok hf)
 have hte : ctE m s c s.length (tabF m s c) = 0 := by rw [ctE_ok h0, if_neg (by rw [hts]; decide), tabF_proves hf]; rfl
 refine ⟨alignP m s c, (headS m s c).cost, tabF m s c, sureL m s c, ⟨if_neg (by rw [h0]; decide), if_neg (by rw [h0]; decide), (headB_ok hf.c hf.l.2 (beh_ok hf) (allP m s).length (Nat.le_refl _)).1, hl8, hAE, hAR, if_neg (by rw [h0]; decide), rfl, tabF_len, tabF_small hf, hte, ?_, hts, ?_, fun h => ?_, fun h => ?_, fun i k hi hk hy => ?_, rfl, sure_len h0, fun p hp => ?_⟩⟩
 ·unfold ctN
  rw [hte, if_neg (by decide), own_bound hf]
 ·unfold rpairsS
  rw [if_neg (by omega)]
  exact pairsS_iff.2 a1
 ·obtain ⟨h1, h2⟩ := (costE_iff h0).1 h
  have h3 := align_low (c := c) h2
  rw [hE h]
  refine ⟨fun h4 => h3 (.inl h4), fun h4 => ⟨fun h5 => h3 (.inr ⟨h4, by omega⟩), fun h5 => less_no h2 h4 h5⟩⟩
 ·have hcn : ctN m s c n R = bndS m s c R (allP m s).length := by unfold ctN; rw [h, if_neg (by decide)]
  rw [ctE_ok h0] at h
  have hz : ctS m s n R = 0 := by
   by_cases q : ctS m s n R = 0
   ·exact q
   ·rw [if_pos q] at h; exact absurd h q
  rw [if_neg (by rw [hz]; decide)] at h
  have hp : provesS m s c n R = true := by
   cases q : provesS m s c n R with
   | true => rfl
   | false => rw [q] at h; simp at h
  have ht := tabOk_of hz
  have hn := ht.hn
  subst hn
  have := bnd_le hf ht hp
  omega
 ·rw [ctE_ok h0, if_neg (by rw [ctS_of (raise_ok hf hk)]; decide), raise_no hf hi hk hy]
  rfl
 ·obtain ⟨h1, h2, h3⟩ := without_more h0 hp
  have hz : costE m s c (without p (alignP m s c)) = 0 := (costE_iff h0).2 ⟨by omega, h1⟩
  exact ⟨hz, h2, by rw [hE hz]; exact h3⟩

end Go.Proofs.YtfmnfagcbehmdaaGreatDoor
