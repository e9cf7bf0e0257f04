/- Chapter 9: chains, in plain Lean: the longest one by rounds, and by searching. -/
import Derived.Test.YtlhgddgoblliaaaGreatDoorVf
set_option linter.unusedVariables false
set_option linter.unusedSimpArgs false
namespace Go.Proofs.YtlhgddgoblliaaaGreatDoor
open Go.RowKit Go.Sym

section chains
variable (n : Nat) (E : Nat → Nat → Bool)
def mxF (f : Nat → Nat) (p : Nat → Bool) : Nat → Nat
  | 0 => 0
  | k + 1 => if p k = true then max (mxF f p k) (f k) else mxF f p k
def mF : Nat → Nat → Nat
  | 0, _ => 0
  | f + 1, i => 1 + mxF (mF f) (E i) n
def bstC (g : Nat → List Nat) (p : Nat → Bool) : Nat → List Nat
  | 0 => []
  | k + 1 => if p k = true then (if (bstC g p k).length < (g k).length then g k else bstC g p k) else bstC g p k
def cF : Nat → Nat → List Nat
  | 0, _ => []
  | f + 1, i => i :: bstC (cF f) (E i) n
variable {n E}
theorem mxF_congr {f g : Nat → Nat} {p : Nat → Bool} : ∀ {k : Nat}, (∀ j, j < k → p j = true → f j = g j) → mxF f p k = mxF g p k
  | 0, _ => rfl
  | k + 1, h => by
    have ih := mxF_congr (k := k) fun j hj => h j (by omega)
    simp only [mxF, ih]
    by_cases hp : p k = true
    · rw [if_pos hp, if_pos hp, h k (by omega) hp]
    · rw [if_neg hp, if_neg hp]
theorem mxF_mono {f g : Nat → Nat} {p : Nat → Bool} : ∀ {k : Nat}, (∀ j, j < k → p j = true → f j ≤ g j) → mxF f p k ≤ mxF g p k
  | 0, _ => Nat.le_refl _
  | k + 1, h => by
    have ih := mxF_mono (k := k) fun j hj => h j (by omega)
    simp only [mxF]
    by_cases hp : p k = true
    · rw [if_pos hp, if_pos hp]
      have := h k (by omega) hp
      omega
    · rw [if_neg hp, if_neg hp]; exact ih
theorem mxF_ge {f : Nat → Nat} {p : Nat → Bool} {j : Nat} (hp : p j = true) : ∀ {k : Nat}, j < k → f j ≤ mxF f p k
  | 0, h => by omega
  | k + 1, h => by
    simp only [mxF]
    by_cases e : j = k
    · subst e; rw [if_pos hp]; omega
    · have := mxF_ge (f := f) hp (k := k) (by omega)
      split <;> omega
theorem mxF_at {f : Nat → Nat} {p : Nat → Bool} : ∀ {k : Nat}, 0 < mxF f p k → ∃ j, j < k ∧ p j = true ∧ f j = mxF f p k
  | 0, h => by simp [mxF] at h
  | k + 1, h => by
    simp only [mxF] at h ⊢
    by_cases hp : p k = true
    · rw [if_pos hp] at h ⊢
      by_cases hle : mxF f p k ≤ f k
      · exact ⟨k, by omega, hp, by omega⟩
      · obtain ⟨j, h1, h2, h3⟩ := mxF_at (f := f) (p := p) (k := k) (by omega)
        exact ⟨j, by omega, h2, by omega⟩
    · rw [if_neg hp] at h ⊢
      obtain ⟨j, h1, h2, h3⟩ := mxF_at h
      exact ⟨j, by omega, h2, h3⟩
theorem bstC_congr {f g : Nat → List Nat} {p : Nat → Bool} : ∀ {k : Nat}, (∀ j, j < k → p j = true → f j = g j) → bstC f p k = bstC g p k
  | 0, _ => rfl
  | k + 1, h => by
    have ih := bstC_congr (k := k) fun j hj => h j (by omega)
    simp only [bstC, ih]
    by_cases hp : p k = true
    · rw [if_pos hp, if_pos hp, h k (by omega) hp]
    · rw [if_neg hp, if_neg hp]
theorem bstC_len (g : Nat → List Nat) (p : Nat → Bool) : ∀ k, (bstC g p k).length = mxF (fun j => (g j).length) p k
  | 0 => rfl
  | k + 1 => by
    have ih := bstC_len g p k
    simp only [bstC, mxF]
    by_cases hp : p k = true
    · rw [if_pos hp, if_pos hp]
      split <;> omega
    · rw [if_neg hp, if_neg hp]; exact ih
theorem cF_len : ∀ (f i : Nat), (cF n E f i).length = mF n E f i
  | 0, _ => rfl
  | f + 1, i => by
    simp only [cF, mF, List.length_cons, bstC_len]
    rw [mxF_congr (g := mF n E f) fun j _ _ => cF_len f j]
    omega
theorem bstC_first {g : Nat → List Nat} {p : Nat → Bool} : ∀ {k j : Nat}, j < k → p j = true → 0 < (g j).length → (g j).length = mxF (fun x => (g x).length) p k → (∀ x, x < j → p x = true → (g x).length ≠ (g j).length) → bstC g p k = g j
  | 0, j, h, _, _, _, _ => by omega
  | k + 1, j, hj, hp, h0, hm, hf => by
    have hl := bstC_len g p k
    simp only [mxF] at hm
    simp only [bstC]
    by_cases hpk : p k = true
    · rw [if_pos hpk] at hm ⊢
      by_cases hlt : (bstC g p k).length < (g k).length
      · rw [if_pos hlt]
        by_cases e : j = k
        · rw [e]
        · have := mxF_ge (f := fun x => (g x).length) hp (k := k) (by omega)
          have this : (g j).length ≤ mxF (fun x => (g x).length) p k := this
          omega
      · rw [if_neg hlt]
        have hm' : (g j).length = mxF (fun x => (g x).length) p k := by omega
        by_cases e : j = k
        · subst e
          obtain ⟨x, h1, h2, h3⟩ := mxF_at (f := fun x => (g x).length) (p := p) (k := j) (by omega)
          exact absurd (h3.trans hm'.symm) (hf x h1 h2)
        · exact bstC_first (by omega) hp h0 hm' hf
    · rw [if_neg hpk] at hm ⊢
      have e : j ≠ k := fun e => by subst e; exact hpk hp
      exact bstC_first (by omega) hp h0 hm hf
theorem mF_mono : ∀ (f i : Nat), mF n E f i ≤ mF n E (f + 1) i
  | 0, i => Nat.zero_le _
  | f + 1, i => by
    have := mxF_mono (f := mF n E f) (g := mF n E (f + 1)) (p := E i) (k := n) fun j _ _ => mF_mono f j
    show 1 + mxF (mF n E f) (E i) n ≤ 1 + mxF (mF n E (f + 1)) (E i) n
    omega
/-- A rank that every step lessens. -/
def Ranked (n : Nat) (E : Nat → Nat → Bool) (rk : Nat → Nat) : Prop := (∀ i k, i < n → k < n → E i k = true → rk k < rk i) ∧ ∀ i, i < n → rk i < n
theorem cF_stable {rk : Nat → Nat} (h : Ranked n E rk) : ∀ (c f f' i : Nat), rk i < c → i < n → rk i < f → rk i < f' → cF n E f i = cF n E f' i
  | 0, _, _, i, hc, _, _, _ => by omega
  | c + 1, f, f', i, hc, hi, hf, hf' => by
    obtain ⟨g, rfl⟩ : ∃ g, f = g + 1 := ⟨f - 1, by omega⟩
    obtain ⟨g', rfl⟩ : ∃ g, f' = g + 1 := ⟨f' - 1, by omega⟩
    simp only [cF]
    rw [bstC_congr (g := cF n E g') fun j hj hp => ?_]
    have := h.1 i j hi hj hp
    exact cF_stable h c g g' j (by omega) hj (by omega) (by omega)
theorem cF_fix {rk : Nat → Nat} (h : Ranked n E rk) {i : Nat} (hi : i < n) : cF n E n i = i :: bstC (cF n E n) (E i) n := by
  have e : cF n E n i = cF n E (n + 1) i := cF_stable h (rk i + 1) n (n + 1) i (by omega) hi (h.2 i hi) (by have := h.2 i hi; omega)
  exact e
theorem mF_fix {rk : Nat → Nat} (h : Ranked n E rk) {i : Nat} (hi : i < n) : mF n E n i = 1 + mxF (mF n E n) (E i) n := by
  have e := congrArg List.length (cF_fix h hi)
  rw [cF_len, List.length_cons, bstC_len, mxF_congr (g := mF n E n) fun j _ _ => cF_len n j] at e
  omega
/-- Rounds: what is between the bounds is so behind one, too. -/
theorem round_in {rk : Nat → Nat} (h : Ranked n E rk) {r i : Nat} (hi : i < n) {v : Nat → Nat} (hv : ∀ k, k < n → mF n E r k ≤ v k ∧ v k ≤ mF n E n k) : mF n E (r + 1) i ≤ 1 + mxF v (E i) n ∧ 1 + mxF v (E i) n ≤ mF n E n i := by
  have h1 := mxF_mono (f := mF n E r) (g := v) (p := E i) (k := n) fun j hj _ => (hv j hj).1
  have h2 := mxF_mono (f := v) (g := mF n E n) (p := E i) (k := n) fun j hj _ => (hv j hj).2
  rw [mF_fix h hi]
  exact ⟨by show 1 + mxF (mF n E r) (E i) n ≤ _; omega, by omega⟩
theorem mF_pos {rk : Nat → Nat} (h : Ranked n E rk) {i : Nat} (hi : i < n) : 1 ≤ mF n E n i := by rw [mF_fix h hi]; omega
/-- The chain from a job goes on with the first one that has the longest chain. -/
theorem chain_next {rk : Nat → Nat} (h : Ranked n E rk) {i k : Nat} (hi : i < n) (hk : k < n) (he : E i k = true) (hm : mF n E n k + 1 = mF n E n i) (hf : ∀ x, x < k → E i x = true → mF n E n x + 1 ≠ mF n E n i) : cF n E n i = i :: cF n E n k := by
  rw [cF_fix h hi]
  have hfx := mF_fix h hi
  rw [bstC_first hk he (by rw [cF_len]; exact mF_pos h hk) ?_ fun x hx hp => ?_]
  · rw [cF_len, mxF_congr (g := mF n E n) fun j _ _ => cF_len n j]; omega
  · rw [cF_len, cF_len]
    have := hf x hx hp
    omega
theorem chain_end {rk : Nat → Nat} (h : Ranked n E rk) {i : Nat} (hi : i < n) (hm : mF n E n i = 1) : cF n E n i = [i] := by
  have := cF_len (n := n) (E := E) n i
  rw [cF_fix h hi] at this ⊢
  rw [hm, List.length_cons] at this
  rw [List.eq_nil_of_length_eq_zero (l := bstC (cF n E n) (E i) n) (by omega)]
theorem chain_has {rk : Nat → Nat} (h : Ranked n E rk) {i : Nat} (hi : i < n) (hm : 1 < mF n E n i) : ∃ k, k < n ∧ E i k = true ∧ mF n E n k + 1 = mF n E n i := by
  have hf := mF_fix h hi
  obtain ⟨k, h1, h2, h3⟩ := mxF_at (f := mF n E n) (p := E i) (k := n) (by omega)
  exact ⟨k, h1, h2, by omega⟩
end chains

/-! Jobs without a cycle. -/
def edJ (l : List Jb) (i k : Nat) : Bool := memS (l.getD k jbD).af (l.getD i jbD).name
theorem ix_name {l : List Jb} (h : jbsE l = 0) {i : Nat} (hi : i < l.length) : ixV (nmJ l) (l.getD i jbD).name = i := by
  have h1 := jbs_names h i hi
  have h2 : fnd l (l.getD i jbD).name = i := by
    by_cases e : fnd l (l.getD i jbD).name = i
    · exact e
    · have := (fnd_first hi).1 e
      rw [h1] at this; cases this
  have h3 : memS (nmJ l) (l.getD i jbD).name = true := by
    refine memS_iff.2 (List.mem_map.2 ⟨l.getD i jbD, ?_, rfl⟩)
    rw [List.getD_eq_getElem?_getD, List.getElem?_eq_getElem hi]
    exact List.getElem_mem hi
  rw [← (fnd_is.1 h3).1, h2]
/-- What is done came in an order. -/
def Ordd (l : List Jb) (D : List Bool) : Prop := ∃ (t : Nat → Nat) (B : Nat), (∀ x, D.getD x false = true → t x < B) ∧ ∀ i k, i < l.length → k < l.length → D.getD k false = true → edJ l i k = true → D.getD i false = true ∧ t i < t k
theorem ord_st {l : List Jb} (hn : jbsE l = 0) {D : List Bool} (hD : Ordd l D) : ∀ i, i ≤ l.length → Ordd l (stR (nmJ l) l D i)
  | 0, _ => hD
  | x + 1, hx => by
    obtain ⟨t, B, h1, h2⟩ := ord_st hn hD x (by omega)
    simp only [stR]
    obtain ⟨E, hE⟩ : ∃ E, stR (nmJ l) l D x = E := ⟨_, rfl⟩
    rw [hE] at h1 h2 ⊢
    by_cases hf : frB (nmJ l) E (l.getD x jbD).af (l.getD x jbD).af.length = true
    · rw [if_pos hf]
      have hneeds : ∀ i, i < l.length → edJ l i x = true → E.getD i false = true := fun i hi he => by
        unfold frB at hf
        rw [List.take_length, List.all_eq_true] at hf
        have := hf _ (memS_iff.1 he)
        unfold dnV at this
        rw [ix_name hn hi] at this
        simpa using this
      by_cases hd : E.getD x false = true
      · have : E.set x true = E := by
          refine List.ext_getElem? fun q => ?_
          rw [List.getElem?_set]
          split
          · rename_i e
            subst e
            split
            · rename_i hlt
              rw [List.getD_eq_getElem?_getD, List.getElem?_eq_getElem hlt] at hd
              rw [List.getElem?_eq_getElem hlt]
              exact congrArg some hd.symm
            · rename_i hlt
              rw [List.getElem?_eq_none (by omega)]
          · rfl
        rw [this]
        exact ⟨t, B, h1, h2⟩
      · have hset : ∀ q, (E.set x true).getD q false = true → q = x ∨ E.getD q false = true := fun q hq => by
          by_cases e : q = x
          · exact .inl e
          · right
            rw [List.getD_eq_getElem?_getD, List.getElem?_set_ne (fun c => e c.symm), ← List.getD_eq_getElem?_getD] at hq
            exact hq
        refine ⟨fun q => if q = x then B else t q, B + 1, fun q hq => ?_, fun i k hi hk hdk he => ?_⟩
        · dsimp only
          split
          · omega
          · rename_i e
            rcases hset q hq with e2 | e2
            · exact absurd e2 e
            · have := h1 q e2; omega
        · dsimp only
          by_cases ek : k = x
          · subst ek
            have h3 := hneeds i hi he
            have hne : i ≠ k := fun e => by subst e; exact hd h3
            refine ⟨set_mono h3, ?_⟩
            rw [if_neg hne, if_pos rfl]
            exact h1 i h3
          · rcases hset k hdk with e2 | e2
            · exact absurd e2 ek
            · obtain ⟨h3, h4⟩ := h2 i k hi hk e2 he
              have hne : i ≠ x := fun e => by subst e; exact hd h3
              rw [if_neg hne, if_neg ek]
              exact ⟨set_mono h3, h4⟩
    · rw [if_neg hf]
      exact ⟨t, B, h1, h2⟩
theorem ord_rd {l : List Jb} (hn : jbsE l = 0) : ∀ r, Ordd l (rdR (nmJ l) l r)
  | 0 => ⟨fun _ => 0, 1, fun x h => by show (0 : Nat) < 1; omega, fun i k hi hk h => by simp [rdR, List.getD, hk] at h⟩
  | r + 1 => ord_st hn (ord_rd hn r) l.length (Nat.le_refl _)
theorem jobs_ranked {l : List Jb} (hn : jbsE l = 0) (hc : cycB l = false) : ∃ rk, Ranked l.length (edJ l) rk := by
  obtain ⟨t, B, _, h2⟩ := ord_rd hn l.length
  have hall : ∀ k, k < l.length → (rdR (nmJ l) l l.length).getD k false = true := fun k hk => by
    rw [cycB_R, List.any_eq_false] at hc
    have hlen := rdR_len (nmJ l) l l.length
    have := hc _ (List.getElem_mem (n := k) (by omega))
    rw [List.getD_eq_getElem?_getD, List.getElem?_eq_getElem (by omega)]
    show (rdR (nmJ l) l l.length)[k] = true
    cases e : (rdR (nmJ l) l l.length)[k] with
    | true => rfl
    | false => rw [e] at this; exact absurd rfl this
  refine ⟨fun i => (List.range l.length).countP fun k => decide (t i < t k), fun i k hi hk he => ?_, fun i hi => ?_⟩
  · have hlt := (h2 i k hi hk (hall k hk) he).2
    exact countP_lt (x := k) (List.mem_range.2 hk) (fun y hy => by simp at hy ⊢; omega) (by simp; exact hlt) (by simp)
  · show (List.range l.length).countP (fun k => decide (t i < t k)) < l.length
    have h4 := countP_lt (p := fun _ => true) (q := fun k => decide (t i < t k)) (l := List.range l.length) (x := i) (List.mem_range.2 hi) (fun _ _ => rfl) rfl (by simp)
    have h5 : (List.range l.length).countP (fun _ => true) = l.length := by simp
    omega

end Go.Proofs.YtlhgddgoblliaaaGreatDoor
