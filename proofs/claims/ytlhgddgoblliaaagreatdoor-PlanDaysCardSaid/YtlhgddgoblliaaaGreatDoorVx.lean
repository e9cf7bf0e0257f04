/- Chapter 9: both searches find the same, in plain Lean. -/
import Derived.Test.YtlhgddgoblliaaaGreatDoorVw
set_option linter.unusedVariables false
set_option linter.unusedSimpArgs false
namespace Go.Proofs.YtlhgddgoblliaaaGreatDoor
open Go.RowKit Go.Sym

/-! Searches by depth. -/
def dfs (P L : List Int → Prop) [DecidablePred P] [DecidablePred L] (e : Nat) : Nat → List Int → Option (List Int)
  | 0, pre => if L pre then some pre else none
  | r + 1, pre => tryF (fun d => if P (pre ++ [(d : Int)]) then dfs P L e r (pre ++ [(d : Int)]) else none) e
structure Ext (pre : List Int) (r e : Nat) (d : List Int) : Prop where
  len : d.length = pre.length + r
  beg : d.take pre.length = pre
  rng : ∀ i, pre.length ≤ i → i < d.length → 0 ≤ d.getD i 0 ∧ d.getD i 0 < e
structure Good (P L : List Int → Prop) (j : Nat) (d : List Int) : Prop where
  leaf : L d
  all : ∀ k, j < k → k ≤ d.length → P (d.take k)
theorem tryF_some {α : Type} {f : Nat → Option α} {x : α} : ∀ {e : Nat}, tryF f e = some x → ∃ d, d < e ∧ f d = some x
  | 0, h => by cases h
  | e + 1, h => by
    unfold tryF at h
    obtain ⟨d, hd, hx⟩ := List.exists_of_findSome?_eq_some h
    exact ⟨d, List.mem_range.1 hd, hx⟩
theorem tryF_no {α : Type} {f : Nat → Option α} {e d : Nat} (h : tryF f e = none) (hd : d < e) : f d = none := by
  unfold tryF at h
  rw [List.findSome?_eq_none_iff] at h
  exact h d (List.mem_range.2 hd)
section
variable {P L : List Int → Prop} [DecidablePred P] [DecidablePred L] {e : Nat}
theorem Ext.up {pre d : List Int} {r x : Nat} (h : Ext (pre ++ [(x : Int)]) r e d) (hx : x < e) : Ext pre (r + 1) e d := by
  have hl : (pre ++ [(x : Int)]).length = pre.length + 1 := by simp
  have h1 := h.len
  have h2 := h.beg
  rw [hl] at h1 h2
  refine ⟨by omega, ?_, fun i hi hid => ?_⟩
  · have : (d.take (pre.length + 1)).take pre.length = (pre ++ [(x : Int)]).take pre.length := by rw [h2]
    rw [List.take_take, Nat.min_eq_left (by omega), List.take_append_of_le_length (Nat.le_refl _), List.take_length] at this
    exact this
  · by_cases e : i = pre.length
    · subst e
      have : d.getD pre.length 0 = (x : Int) := by
        have h3 := congrArg (fun l : List Int => l.getD pre.length 0) h2
        simp only [List.getD_eq_getElem?_getD] at h3 ⊢
        rw [List.getElem?_take_of_lt (by omega), List.getElem?_append_right (Nat.le_refl _)] at h3
        simpa using h3
      rw [this]; omega
    · exact h.rng i (by rw [hl]; omega) hid
theorem Ext.step {pre d : List Int} {r : Nat} (h : Ext pre (r + 1) e d) : ∃ x : Nat, x < e ∧ Ext (pre ++ [(x : Int)]) r e d ∧ d.take (pre.length + 1) = pre ++ [(x : Int)] := by
  have hl := h.len
  obtain ⟨h1, h2⟩ := h.rng pre.length (Nat.le_refl _) (by omega)
  have hx : ((d.getD pre.length 0).toNat : Int) = d.getD pre.length 0 := Int.toNat_of_nonneg h1
  have ht : d.take (pre.length + 1) = pre ++ [((d.getD pre.length 0).toNat : Int)] := by
    rw [hx, take_snoc d 0 pre.length (by omega), h.beg]
  refine ⟨(d.getD pre.length 0).toNat, by omega, ⟨by simp; omega, by simpa using ht, fun i hi hid => h.rng i (by simp at hi; omega) hid⟩, ht⟩
omit [DecidablePred P] [DecidablePred L] in
theorem Good.iff {d : List Int} {j : Nat} (hj : j < d.length) : Good P L j d ↔ P (d.take (j + 1)) ∧ Good P L (j + 1) d :=
  ⟨fun h => ⟨h.all (j + 1) (by omega) (by omega), ⟨h.leaf, fun k h1 h2 => h.all k (by omega) h2⟩⟩, fun h => ⟨h.2.leaf, fun k h1 h2 => by
    by_cases e : k = j + 1
    · subst e; exact h.1
    · exact h.2.all k (by omega) h2⟩⟩
theorem dfs_some : ∀ {r : Nat} {pre d : List Int}, dfs P L e r pre = some d → Ext pre r e d ∧ Good P L pre.length d
  | 0, pre, d, h => by
    simp only [dfs] at h
    split at h
    · cases h
      rename_i hL
      exact ⟨⟨rfl, List.take_length, fun i h1 h2 => absurd h2 (by omega)⟩, ⟨hL, fun k h1 h2 => absurd h2 (by omega)⟩⟩
    · cases h
  | r + 1, pre, d, h => by
    obtain ⟨x, hx, hd⟩ := tryF_some h
    split at hd
    · rename_i hP
      obtain ⟨h1, h2⟩ := dfs_some hd
      have hl : (pre ++ [(x : Int)]).length = pre.length + 1 := by simp
      have h3 := h1.up hx
      have hlen := h1.len
      have hpr := h1.beg
      rw [hl] at hlen hpr h2
      exact ⟨h3, (Good.iff (j := pre.length) (by omega)).2 ⟨by rw [hpr]; exact hP, h2⟩⟩
    · cases hd
theorem dfs_none : ∀ {r : Nat} {pre : List Int}, dfs P L e r pre = none → ∀ d, Ext pre r e d → ¬ Good P L pre.length d
  | 0, pre, h, d, hE, hG => by
    have hd : d = pre := by
      have h1 := hE.beg
      have h2 := hE.len
      rw [List.take_of_length_le (by omega)] at h1
      exact h1
    subst hd
    simp only [dfs, if_pos hG.leaf] at h
    cases h
  | r + 1, pre, h, d, hE, hG => by
    obtain ⟨x, hx, h1, h2⟩ := hE.step
    have hlen := hE.len
    obtain ⟨g1, g2⟩ := (Good.iff (j := pre.length) (by omega)).1 hG
    rw [h2] at g1
    have h3 := tryF_no h hx
    rw [if_pos g1] at h3
    refine dfs_none h3 d h1 ?_
    have hl : (pre ++ [(x : Int)]).length = pre.length + 1 := by simp
    rw [hl]; exact g2
theorem tryF_congr {α : Type} {f g : Nat → Option α} : ∀ {e : Nat}, (∀ d, d < e → f d = g d) → tryF f e = tryF g e
  | 0, _ => rfl
  | e + 1, h => by
    have ih := tryF_congr (e := e) fun d hd => h d (by omega)
    unfold tryF at ih ⊢
    rw [List.range_succ, List.findSome?_append, List.findSome?_append, ih]
    simp [h e (by omega)]
theorem opt_none {o : Option (List Int)} (h : ∀ d, o ≠ some d) : o = none := by cases o with | none => rfl | some d => exact absurd rfl (h d)
variable {P' L' : List Int → Prop} [DecidablePred P'] [DecidablePred L']
theorem dfs_same : ∀ {r : Nat} {pre : List Int}, (∀ d, Ext pre r e d → (Good P L pre.length d ↔ Good P' L' pre.length d)) → dfs P L e r pre = dfs P' L' e r pre
  | 0, pre, h => by
    have hE : Ext pre 0 e pre := ⟨rfl, List.take_length, fun i h1 h2 => absurd h2 (by omega)⟩
    have key : ∀ {P L : List Int → Prop}, Good P L pre.length pre ↔ L pre := fun {P L} => ⟨fun h => h.leaf, fun h => ⟨h, fun k h1 h2 => absurd h2 (by omega)⟩⟩
    have := (key.symm.trans (h pre hE)).trans key
    simp only [dfs]
    by_cases hL : L pre
    · rw [if_pos hL, if_pos (this.1 hL)]
    · rw [if_neg hL, if_neg (fun h => hL (this.2 h))]
  | r + 1, pre, h => by
    simp only [dfs]
    refine tryF_congr fun x hx => ?_
    have hl : (pre ++ [(x : Int)]).length = pre.length + 1 := by simp
    have sub : ∀ d, Ext (pre ++ [(x : Int)]) r e d → (P (pre ++ [(x : Int)]) ∧ Good P L (pre.length + 1) d ↔ P' (pre ++ [(x : Int)]) ∧ Good P' L' (pre.length + 1) d) := fun d hd => by
      have h1 := h d (hd.up hx)
      have hlen := hd.len
      have hpr := hd.beg
      rw [hl] at hlen hpr
      rw [Good.iff (j := pre.length) (by omega), Good.iff (j := pre.length) (by omega), hpr] at h1
      exact h1
    by_cases h1 : P (pre ++ [(x : Int)]) <;> by_cases h2 : P' (pre ++ [(x : Int)])
    · rw [if_pos h1, if_pos h2]
      refine dfs_same fun d hd => ?_
      rw [hl]
      have := sub d hd
      exact ⟨fun g => (this.1 ⟨h1, g⟩).2, fun g => (this.2 ⟨h2, g⟩).2⟩
    · rw [if_pos h1, if_neg h2]
      refine opt_none fun d hd => ?_
      obtain ⟨g1, g2⟩ := dfs_some hd
      rw [hl] at g2
      exact h2 ((sub d g1).1 ⟨h1, g2⟩).1
    · rw [if_neg h1, if_pos h2]
      refine (opt_none fun d hd => ?_).symm
      obtain ⟨g1, g2⟩ := dfs_some hd
      rw [hl] at g2
      exact h1 ((sub d g1).2 ⟨h2, g2⟩).1
    · rw [if_neg h1, if_neg h2]
end

/-! The two searches. -/
theorem firstS_allz : ∀ {l : List Int}, (∀ x ∈ l, x = 0) → firstS l = 0
  | [], _ => rfl
  | x :: l, h => (firstS_cons _ _).2 ⟨h x List.mem_cons_self, firstS_allz fun y hy => h y (List.mem_cons_of_mem _ hy)⟩
theorem getD_mem {α : Type} {L : List α} {d : α} {q : Nat} (h : q < L.length) : L.getD q d ∈ L := by
  rw [List.getD_eq_getElem?_getD, List.getElem?_eq_getElem h]
  exact List.getElem_mem h
section
variable (l : List Jb) (H : List Int) (hi : Int)
def rP (p : List Int) : Prop := ckS l H hi (padD l.length p) (p.length - 1) = 0
def pP (p : List Int) : Prop := ckS l H hi (padD l.length p) (p.length - 1) = 0 ∧ ltR l (padD l.length p) (p.length - 1) (p.length - 1) = false
def pT (_ : List Int) : Prop := True
def rL (d : List Int) : Prop := csX l H hi d = 0
instance : DecidablePred (rP l H hi) := fun p => by unfold rP; infer_instance
instance : DecidablePred (pP l H hi) := fun p => by unfold pP; infer_instance
instance : DecidablePred pT := fun p => by unfold pT; infer_instance
instance : DecidablePred (rL l H hi) := fun p => by unfold rL; infer_instance
end
section
variable {l : List Jb} {H : List Int} {hi : Int} {e : Nat}
theorem pad_set {n : Nat} {pre : List Int} {x : Int} (h : pre.length < n) : (padD n pre).set pre.length x = padD n (pre ++ [x]) := by
  unfold padD
  obtain ⟨m, hm⟩ : ∃ m, n - pre.length = m + 1 := ⟨n - pre.length - 1, by omega⟩
  rw [hm, List.replicate_succ, List.set_append_right _ _ (Nat.le_refl _), Nat.sub_self, List.set_cons_zero, List.length_append, List.length_singleton, show n - (pre.length + 1) = m by omega, List.append_assoc]
  rfl
theorem flF_dfs : ∀ {r : Nat} {pre : List Int}, pre.length + r = l.length → flF l H hi e r pre.length (padD l.length pre) = dfs (pP l H hi) pT e r pre
  | 0, pre, h => by
    have : padD l.length pre = pre := by unfold padD; rw [show l.length - pre.length = 0 by omega]; simp
    show some (padD l.length pre) = if True then some pre else none
    rw [this, if_pos trivial]
  | r + 1, pre, h => by
    simp only [flF, dfs]
    refine tryF_congr fun x hx => ?_
    have hl : (pre ++ [(x : Int)]).length = pre.length + 1 := by simp
    have ih := flF_dfs (r := r) (pre := pre ++ [(x : Int)]) (by omega)
    rw [hl] at ih
    unfold fbF
    rw [pad_set (by omega), ih]
    have hp : pP l H hi (pre ++ [(x : Int)]) ↔ (ckS l H hi (padD l.length (pre ++ [(x : Int)])) pre.length = 0 ∧ ltR l (padD l.length (pre ++ [(x : Int)])) pre.length pre.length = false) := by
      unfold pP; rw [hl]; exact Iff.rfl
    by_cases hc : pP l H hi (pre ++ [(x : Int)])
    · rw [if_pos (hp.1 hc), if_pos hc]
    · rw [if_neg (fun h => hc (hp.2 h)), if_neg hc]
theorem rsF_dfs : ∀ {r : Nat} {pre : List Int}, rsF l H hi e r pre = dfs (rP l H hi) (rL l H hi) e r pre
  | 0, pre => rfl
  | r + 1, pre => by
    simp only [rsF, dfs]
    refine tryF_congr fun x hx => ?_
    have hl : (pre ++ [(x : Int)]).length = pre.length + 1 := by simp
    have ih := rsF_dfs (r := r) (pre := pre ++ [(x : Int)])
    unfold rsB
    rw [ih]
    have hp : rP l H hi (pre ++ [(x : Int)]) ↔ ckS l H hi (padD l.length (pre ++ [(x : Int)])) pre.length = 0 := by
      unfold rP; rw [hl]; exact Iff.rfl
    by_cases hc : rP l H hi (pre ++ [(x : Int)])
    · rw [if_pos (hp.1 hc), if_pos hc]
    · rw [if_neg (fun h => hc (hp.2 h)), if_neg hc]
theorem ckS_zero {D : List Int} {i : Nat} : ckS l H hi D i = 0 ↔ (∀ q, q < lnJ l i → ¬ dyD D (ixV (nmJ l) (afJ l i q)).toNat ≥ dyD D i) ∧ twR l D i i = false ∧ hotB l H hi D i = false := by
  unfold ckS
  rw [firstS_cons, firstS_cons, firstS_cons, whenS_zero (by decide), whenS_zero (by decide), whenS_zero (by decide)]
  have ha : (l.getD i jbD).af.any (erV (nmJ l) D (dyD D i)) = false ↔ ∀ q, q < lnJ l i → ¬ dyD D (ixV (nmJ l) (afJ l i q)).toNat ≥ dyD D i := by
    constructor
    · intro h q hq
      exact of_decide_eq_false (any_at (d := ByteArray.empty) h hq)
    · intro h
      exact any_getD (d := ByteArray.empty) fun q hq => decide_eq_false (h q hq)
  rw [ha]
  simp [firstS]
theorem pad_le {n i k : Nat} {d : List Int} (hk : k ≤ i) (hi : i < d.length) : dyD (padD n (d.take (i + 1))) k = dyD d k := by
  unfold dyD padD
  rw [List.getD_eq_getElem?_getD, List.getElem?_append_left (by rw [List.length_take]; omega), List.getElem?_take_of_lt (by omega), ← List.getD_eq_getElem?_getD]
theorem pad_gt {n i k : Nat} {d : List Int} (hk : i < k) (hn : k < n) (hi : i < d.length) : dyD (padD n (d.take (i + 1))) k = -1 := by
  unfold dyD padD
  have hl : (d.take (i + 1)).length = i + 1 := by rw [List.length_take]; omega
  rw [List.getD_eq_getElem?_getD, List.getElem?_append_right (by omega), hl, List.getElem?_replicate]
  rw [if_pos (by omega)]
  rfl
theorem twR_cg {D D' : List Int} {i : Nat} : ∀ {k : Nat}, (∀ j, j < k → dyD D j = dyD D' j) → dyD D i = dyD D' i → twR l D i k = twR l D' i k
  | 0, _, _ => rfl
  | k + 1, h, hi => by
    rw [twR_succ, twR_succ, twR_cg (fun j hj => h j (by omega)) hi]
    unfold twB
    rw [h k (by omega), hi]
theorem part_zero {d : List Int} {i : Nat} (hk : Knw l) (hd : d.length = l.length) (hil : i < l.length) (h0 : 0 ≤ dyD d i) : ckS l H hi (padD l.length (d.take (i + 1))) i = 0 ↔ (∀ q, q < lnJ l i → (ixV (nmJ l) (afJ l i q)).toNat ≤ i → ¬ dyD d (ixV (nmJ l) (afJ l i q)).toNat ≥ dyD d i) ∧ twR l d i i = false ∧ hotB l H hi d i = false := by
  have hii : dyD (padD l.length (d.take (i + 1))) i = dyD d i := pad_le (Nat.le_refl _) (by omega)
  rw [ckS_zero, hii, twR_cg (D' := d) (fun j hj => pad_le (by omega) (by omega)) hii]
  have hh : hotB l H hi (padD l.length (d.take (i + 1))) i = hotB l H hi d i := by unfold hotB; rw [hii]
  rw [hh]
  refine and_congr_left fun _ => ⟨fun h q hq hle => ?_, fun h q hq => ?_⟩
  · have := h q hq
    rwa [pad_le hle (by omega)] at this
  · by_cases hle : (ixV (nmJ l) (afJ l i q)).toNat ≤ i
    · rw [pad_le hle (by omega)]; exact h q hq hle
    · obtain ⟨n1, n2, n3⟩ := hk i hil q hq
      rw [pad_gt (by omega) (by omega) (by omega)]
      omega
theorem fnd_name {s : ByteArray} {m : Nat} (h : fnd l s = m) (hm : m < l.length) : (l.getD m jbD).name = s := by
  unfold fnd idxF at h
  split at h
  · rename_i hany
    have e : l.findIdx (nmB s) = m := by omega
    have := List.findIdx_getElem (p := nmB s) (xs := l) (w := by rw [e]; exact hm)
    rw [List.getD_eq_getElem?_getD, List.getElem?_eq_getElem hm]
    have h2 : nmB s l[m] = true := by
      have h3 : l[l.findIdx (nmB s)]'(by rw [e]; exact hm) = l[m] := by congr 1
      rw [← h3]; exact this
    exact of_decide_eq_true h2
  · omega
theorem lt_zero {D : List Int} {m : Nat} : ltR l D m m = false ↔ ∀ i, i < m → memS (l.getD i jbD).af (l.getD m jbD).name = true → dyD D m < dyD D i := by
  unfold ltR
  rw [List.any_eq_false]
  constructor
  · intro h i hi hmem
    have := h i (List.mem_range.2 hi)
    unfold ltB at this
    rw [hmem] at this
    by_cases e : dyD D i ≤ dyD D m
    · rw [decide_eq_true e] at this; exact absurd rfl this
    · omega
  · intro h i hi
    have hi := List.mem_range.1 hi
    unfold ltB
    cases hm : memS (l.getD i jbD).af (l.getD m jbD).name with
    | false => cases decide (dyD D i ≤ dyD D m) <;> simp
    | true =>
      have := h i hi hm
      rw [decide_eq_false (by omega)]
      simp
theorem csX_zero {d : List Int} (hd : d.length = l.length) (hr : ∀ i, i < l.length → 0 ≤ dyD d i ∧ dyD d i < H.length) : csX l H hi d = 0 ↔ ∀ i, i < l.length → ckS l H hi d i = 0 := by
  have ha : d.any (dyB H.length) = false := any_getD (d := 0) fun i hi => by
    obtain ⟨h1, h2⟩ := hr i (by omega)
    unfold dyD at h1 h2
    unfold dyB
    rw [decide_eq_false (by omega), decide_eq_false (by omega)]
    rfl
  unfold csX
  rw [if_neg (by rw [ha]; decide)]
  constructor
  · intro h i hi
    exact firstR_zero h i hi
  · intro h
    refine firstS_allz fun x hx => ?_
    obtain ⟨i, hi, rfl⟩ := List.mem_map.1 hx
    exact h i (List.mem_range.1 hi)
theorem good_same (hk : Knw l) (hn : jbsE l = 0) (he : e ≤ H.length) {d : List Int} (hE : Ext [] l.length e d) : Good (pP l H hi) pT 0 d ↔ Good (rP l H hi) (rL l H hi) 0 d := by
  have hd : d.length = l.length := by have := hE.len; simpa using this
  have hr : ∀ i, i < l.length → 0 ≤ dyD d i ∧ dyD d i < H.length := fun i hi => by
    have := hE.rng i (Nat.zero_le _) (by omega)
    unfold dyD; omega
  have hpart : ∀ i, i < l.length → (d.take (i + 1)).length - 1 = i := fun i hi => by rw [List.length_take]; omega
  have hG2 : Good (rP l H hi) (rL l H hi) 0 d ↔ (∀ i, i < l.length → ckS l H hi d i = 0) ∧ ∀ i, i < l.length → ckS l H hi (padD l.length (d.take (i + 1))) i = 0 := by
    constructor
    · intro h
      refine ⟨(csX_zero hd hr).1 h.leaf, fun i hi => ?_⟩
      have := h.all (i + 1) (by omega) (by omega)
      unfold rP at this
      rwa [hpart i hi] at this
    · rintro ⟨h1, h2⟩
      refine ⟨(csX_zero hd hr).2 h1, fun k hk1 hk2 => ?_⟩
      obtain ⟨i, rfl⟩ : ∃ i, k = i + 1 := ⟨k - 1, by omega⟩
      unfold rP
      rw [hpart i (by omega)]
      exact h2 i (by omega)
  have hG1 : Good (pP l H hi) pT 0 d ↔ (∀ i, i < l.length → ckS l H hi (padD l.length (d.take (i + 1))) i = 0) ∧ ∀ m, m < l.length → ∀ i, i < m → memS (l.getD i jbD).af (l.getD m jbD).name = true → dyD d m < dyD d i := by
    have lt : ∀ m, m < l.length → (ltR l (padD l.length (d.take (m + 1))) m m = false ↔ ∀ i, i < m → memS (l.getD i jbD).af (l.getD m jbD).name = true → dyD d m < dyD d i) := fun m hm => by
      rw [lt_zero]
      refine forall_congr' fun i => forall_congr' fun him => ?_
      rw [pad_le (Nat.le_refl _) (by omega), pad_le (Nat.le_of_lt him) (by omega)]
    constructor
    · intro h
      have key : ∀ i, i < l.length → _ := fun i hi => by
        have := h.all (i + 1) (by omega) (by omega)
        unfold pP at this
        rw [hpart i hi] at this
        exact this
      exact ⟨fun i hi => (key i hi).1, fun m hm => (lt m hm).1 (key m hm).2⟩
    · rintro ⟨h1, h2⟩
      refine ⟨trivial, fun k hk1 hk2 => ?_⟩
      obtain ⟨i, rfl⟩ : ∃ i, k = i + 1 := ⟨k - 1, by omega⟩
      unfold pP
      rw [hpart i (by omega)]
      exact ⟨h1 i (by omega), (lt i (by omega)).2 (h2 i (by omega))⟩
  rw [hG1, hG2]
  constructor
  · rintro ⟨h1, h2⟩
    refine ⟨fun i hi => ?_, h1⟩
    obtain ⟨p1, p2, p3⟩ := (part_zero hk hd hi (hr i hi).1).1 (h1 i hi)
    refine ckS_zero.2 ⟨fun q hq => ?_, p2, p3⟩
    by_cases hle : (ixV (nmJ l) (afJ l i q)).toNat ≤ i
    · exact p1 q hq hle
    · obtain ⟨n1, n2, n3⟩ := hk i hi q hq
      obtain ⟨m, hm⟩ : ∃ m : Nat, ixV (nmJ l) (afJ l i q) = m := ⟨_, (Int.toNat_of_nonneg (by omega)).symm⟩
      rw [hm] at hle n1 ⊢
      have hname := fnd_name n1 (by omega)
      have hmem : memS (l.getD i jbD).af (l.getD m jbD).name = true := by
        rw [hname]
        exact memS_iff.2 (getD_mem hq)
      have := h2 m (by omega) i (by omega) hmem
      show ¬ dyD d (m : Int).toNat ≥ dyD d i
      rw [Int.toNat_natCast]
      omega
  · rintro ⟨h1, h2⟩
    refine ⟨h2, fun m hm i him hmem => ?_⟩
    obtain ⟨q, hq, he⟩ := List.getElem_of_mem (memS_iff.1 hmem)
    have haf : afJ l i q = (l.getD m jbD).name := by
      show (l.getD i jbD).af.getD q ByteArray.empty = _
      rw [List.getD_eq_getElem?_getD, List.getElem?_eq_getElem hq]
      exact he
    have := (ckS_zero.1 (h1 i (by omega))).1 q hq
    rw [haf, ix_name hn hm, Int.toNat_natCast] at this
    omega
/-- Both searches find the same. -/
theorem find_same (hk : Knw l) (hn : jbsE l = 0) (he : e ≤ H.length) : flF l H hi e l.length 0 (sqN l) = rsF l H hi e l.length [] := by
  have h1 := flF_dfs (l := l) (H := H) (hi := hi) (e := e) (r := l.length) (pre := []) (by simp)
  have h2 : padD l.length [] = sqN l := by unfold padD sqN; simp
  rw [h2] at h1
  rw [rsF_dfs]
  refine h1.trans (dfs_same fun d hE => ?_)
  exact good_same hk hn he hE
theorem tryF_first {α : Type} {f : Nat → Option α} {x : α} : ∀ {e : Nat}, tryF f e = some x → ∃ d, d < e ∧ f d = some x ∧ ∀ i, i < d → f i = none
  | 0, h => by cases h
  | e + 1, h => by
    cases h2 : tryF f e with
    | some y =>
      obtain ⟨d, h3, h4, h5⟩ := tryF_first h2
      have h6 := tryF_hit h4 h5 (show d < e + 1 by omega)
      rw [h6] at h
      cases h
      exact ⟨d, by omega, h4, h5⟩
    | none =>
      have h3 : ∀ i, i < e → f i = none := fun i hi => tryF_no h2 hi
      obtain ⟨d, h4, h5⟩ := tryF_some h
      have : d = e := by
        by_cases e2 : d < e
        · rw [h3 d e2] at h5; cases h5
        · omega
      subst this
      exact ⟨d, h4, h5, h3⟩
theorem grK_ge (D : List Int) : ∀ (k j : Nat), j < k → D.getD j 0 ≤ grK D k
  | 0, j, h => by omega
  | k + 1, j, h => by
    simp only [grK]
    by_cases e : j = k
    · subst e; split <;> omega
    · have := grK_ge D k j (by omega)
      split <;> omega
theorem grK_le {D : List Int} {B : Int} (hB : 0 ≤ B) : ∀ {k : Nat}, (∀ j, j < k → D.getD j 0 ≤ B) → grK D k ≤ B
  | 0, _ => hB
  | k + 1, h => by
    simp only [grK]
    have := grK_le hB (k := k) fun j hj => h j (by omega)
    have := h k (by omega)
    split <;> omega
theorem grK_nn (D : List Int) : ∀ k : Nat, 0 ≤ grK D k
  | 0 => Int.le_refl 0
  | k + 1 => by
    simp only [grK]
    have := grK_nn D k
    split <;> omega
theorem sqB_is (hk : Knw l) (hn : jbsE l = 0) {d : Nat} (hd : d < H.length) : sqB l H hi d = (rqB l H hi d).map fun x => (x, d) := by
  unfold sqB rqB
  rw [find_same hk hn (by omega)]
theorem sq_some (hk : Knw l) (hn : jbsE l = 0) {x : List Int} {d : Nat} (h : sqF l H hi = some (x, d)) : rqF l H hi = some x ∧ grS x = d ∧ x.length = l.length ∧ d < H.length := by
  obtain ⟨c, h1, h2, h3⟩ := tryF_first h
  have h4 := sqB_is (hi := hi) hk hn h1
  have hnone : ∀ i, i < c → rqB l H hi i = none := fun i hi2 => by
    have := h3 i hi2
    rw [sqB_is hk hn (by omega)] at this
    cases e : rqB l H hi i with
    | none => rfl
    | some x => rw [e] at this; cases this
  rw [h2] at h4
  cases e : rqB l H hi c with
  | none => rw [e] at h4; cases h4
  | some y =>
    rw [e] at h4
    cases h4
    refine ⟨tryF_hit e hnone h1, ?_, ?_, h1⟩
    · unfold rqB at e
      rw [rsF_dfs] at e
      obtain ⟨g1, g2⟩ := dfs_some e
      have hlen : x.length = l.length := by have := g1.len; simpa using this
      have hle : grS x ≤ d := grK_le (by omega) fun j hj => by
        have := g1.rng j (Nat.zero_le _) hj
        omega
      have hge : (d : Int) ≤ grS x := by
        rcases Nat.eq_zero_or_pos d with h0 | h0
        · subst h0; exact grK_nn x _
        · by_cases hall : ∃ j, j < x.length ∧ (d : Int) ≤ x.getD j 0
          · obtain ⟨j, j1, j2⟩ := hall
            have := grK_ge x x.length j j1
            unfold grS
            omega
          · have hno := hnone (d - 1) (by omega)
            unfold rqB at hno
            rw [show d - 1 + 1 = d by omega, rsF_dfs] at hno
            refine absurd g2 (dfs_none hno x ⟨g1.len, g1.beg, fun i h1 h2 => ?_⟩)
            have h5 := g1.rng i h1 h2
            have h6 : ¬ (d : Int) ≤ x.getD i 0 := fun h => hall ⟨i, h2, h⟩
            omega
      omega
    · unfold rqB at e
      rw [rsF_dfs] at e
      have := (dfs_some e).1.len
      simpa using this
end

end Go.Proofs.YtlhgddgoblliaaaGreatDoor
