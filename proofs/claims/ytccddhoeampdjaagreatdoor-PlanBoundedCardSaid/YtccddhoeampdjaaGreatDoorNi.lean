/- Chapter 9: what the law PlanBounded asks of the best plan. -/
import Derived.Test.YtccddhoeampdjaaGreatDoorNf
import Derived.Test.YtccddhoeampdjaaGreatDoorOj
set_option linter.unusedVariables false
set_option linter.unusedSimpArgs false
namespace Go.Proofs.YtccddhoeampdjaaGreatDoor
open Go.RowKit Go.Sym

theorem inB_iff {T : List Shf} {b : List Int} : (∀ x ∈ b, -1 ≤ x ∧ x < T.length) ↔ ∀ k, k < b.length → -1 ≤ b.getD k 0 ∧ b.getD k 0 < T.length := by
  constructor
  · intro h k hk
    rw [List.getD_eq_getElem?_getD, List.getElem?_eq_getElem hk]
    exact h _ (List.getElem_mem hk)
  · intro h x hx
    obtain ⟨k, hk, rfl⟩ := List.mem_iff_getElem.1 hx
    have := h k hk
    rwa [List.getD_eq_getElem?_getD, List.getElem?_eq_getElem hk] at this
/-- What a plan is, in plain words. -/
structure Fine (S : List Sec) (T : List Shf) (P : List Int) : Prop where
  l : P.length = S.length
  i : ∀ k, k < P.length → -1 ≤ P.getD k 0 ∧ P.getD k 0 < T.length
  f : fitE S T P = 0
theorem Fine.mem {S : List Sec} {T : List Shf} {P : List Int} (h : Fine S T P) : P ∈ allL T.length S.length := allL_mem.2 ⟨h.l, inB_iff.2 h.i⟩
theorem best_bst {S : List Sec} {T : List Shf} (hB : OffB S T) : bst (valP S T) (fitB S T) (allL T.length S.length) = some (bestP S T) := by
  have := plB_all hB
  unfold plB at this
  rwa [List.take_length] at this
theorem best_fine {S : List Sec} {T : List Shf} (hB : OffB S T) : Fine S T (bestP S T) := by
  obtain ⟨h1, h2, _⟩ := bst_is (best_bst hB)
  obtain ⟨h3, h4⟩ := allL_mem.1 h1
  exact ⟨h3, inB_iff.1 h4, by unfold fitB at h2; simpa using h2⟩
theorem best_max {S : List Sec} {T : List Shf} (hB : OffB S T) {P : List Int} (h : Fine S T P) : bet (valP S T P) (valP S T (bestP S T)) = false :=
  (bst_is (best_bst hB)).2.2 P h.mem (by unfold fitB; rw [h.f]; rfl)
theorem fine_of {S : List Sec} {T : List Shf} {P : List Int} (h : planE S T P = 0) : Fine S T P := by
  have hp := planB h
  unfold planE at h
  split at h
  · rw [cpE_fit hp.l (fun k hk => hp.o k (by rw [hp.l]; exact hk))] at h
    exact ⟨hp.l, hp.o, h⟩
  · rename_i h1; exact absurd h h1
theorem fine_plan {S : List Sec} {T : List Shf} {P : List Int} (h0 : offE S T = 0) (h : Fine S T P) : planE S T P = 0 ∧ planV S T P = valP S T P := by
  have e : planE S T P = 0 := by
    unfold planE
    rw [if_pos h0, cpE_fit h.l (fun k hk => h.i k (by rw [h.l]; exact hk))]
    exact h.f
  refine ⟨e, ?_⟩
  unfold planV
  rw [if_pos e]; rfl

/-! No bound is below the value. -/
theorem useL_one {f : Sec → Int} {S : List Sec} (hf : ∀ n, 0 ≤ f (S.getD n secD)) {P : List Int} {k : Int} {i : Nat} (hi : P.getD i 0 = k) : ∀ n, i < n → f (S.getD i secD) ≤ useL f S P k n
  | 0, h => by omega
  | n + 1, h => by
    by_cases e : i = n
    · subst e
      have h0 : (0 : Int) ≤ useL f S P k i := by
        have := useL_grow hf P k 0 i
        rw [Nat.zero_add] at this
        exact this
      show _ ≤ useL f S P k i + (if P.getD i 0 = k then f (S.getD i secD) else 0)
      rw [if_pos hi]; omega
    · have h1 := useL_one hf hi n (by omega)
      have h2 := hf n
      show _ ≤ useL f S P k n + (if P.getD n 0 = k then f (S.getD n secD) else 0)
      split <;> omega
def sumU (S : List Sec) (l : List Z2) (P : List Int) (n : Nat) : Nat → Int
  | 0 => 0
  | k + 1 => sumU S l P n k + cZ (l.getD k z2D) * useL (·.wk) S P k n
theorem sumU_zero (S : List Sec) (l : List Z2) (P : List Int) : ∀ m, sumU S l P 0 m = 0
  | 0 => rfl
  | m + 1 => by simp only [sumU, sumU_zero S l P m, useL, Int.mul_zero, Int.add_zero]
theorem sumU_step (S : List Sec) (l : List Z2) (P : List Int) (n : Nat) : ∀ m : Nat, sumU S l P (n + 1) m = sumU S l P n m + (if 0 ≤ P.getD n 0 ∧ P.getD n 0 < m then cZ (l.getD (P.getD n 0).toNat z2D) * (S.getD n secD).wk else 0)
  | 0 => by
    rw [if_neg (by omega)]; rfl
  | m + 1 => by
    have ih := sumU_step S l P n m
    simp only [sumU, useL]
    rw [ih]
    by_cases e : P.getD n 0 = (m : Int)
    · rw [if_neg (by omega), if_pos e, if_pos (by omega), e, Int.toNat_natCast, Int.mul_add]
      omega
    · rw [if_neg e]
      by_cases e2 : 0 ≤ P.getD n 0 ∧ P.getD n 0 < m
      · rw [if_pos e2, if_pos (by omega), Int.add_zero]; omega
      · rw [if_neg e2, if_neg (by omega)]
        simp only [Int.add_zero]
theorem most_nn (S : List Sec) (T : List Shf) (l : List Z2) (i : Nat) : ∀ m, 0 ≤ mostZ S T l i m
  | 0 => Int.le_refl _
  | m + 1 => by
    have := most_nn S T l i m
    simp only [mostZ]
    split
    · split <;> omega
    · exact this
theorem most_ge (S : List Sec) (T : List Shf) (l : List Z2) (i : Nat) {k : Nat} (ht : inTimeB S T i k = true) : ∀ m, k < m → (S.getD i secD).vl * 27720 - (S.getD i secD).wk * cZ (l.getD k z2D) ≤ mostZ S T l i m
  | 0, h => by omega
  | m + 1, h => by
    by_cases e : k = m
    · subst e
      simp only [mostZ]
      rw [if_pos ht]
      split <;> omega
    · have := most_ge S T l i ht m (by omega)
      simp only [mostZ]
      split
      · split <;> omega
      · exact this
theorem fine_time {S : List Sec} {T : List Shf} {P : List Int} (h : Fine S T P) {i : Nat} (hi : i < P.length) (h0 : 0 ≤ P.getD i 0) : inTimeB S T i (P.getD i 0).toNat = true := by
  have := (fitE_zero.1 h.f).1 i hi
  unfold lateAt at this
  cases e : inTimeB S T i (P.getD i 0).toNat with
  | true => rfl
  | false => rw [if_pos ⟨h0, e⟩] at this; exact absurd this (by decide)
theorem fine_left {S : List Sec} {T : List Shf} {P : List Int} (h : Fine S T P) {k : Nat} (hk : k < T.length) : useL (·.wk) S P k S.length ≤ (T.getD k shfD).hr ∧ useL (·.bl) S P k S.length ≤ (T.getD k shfD).bl := by
  have := shAt_zero.1 ((fitE_zero.1 h.f).2 k hk)
  unfold leftH leftT at this
  rw [h.l] at this
  omega
theorem val_dual {S : List Sec} {T : List Shf} {P : List Int} (h : Fine S T P) (l : List Z2) : ∀ n, n ≤ S.length → valV S P n * 27720 ≤ sumM S T l n + sumU S l P n T.length
  | 0, _ => by rw [sumU_zero]; show (0 : Int) * 27720 ≤ 0 + 0; decide
  | n + 1, hn => by
    have ih := val_dual h l n (by omega)
    have hi := h.i n (by rw [h.l]; omega)
    have hm := most_nn S T l n T.length
    rw [sumU_step]
    simp only [valV, sumM]
    by_cases h0 : 0 ≤ P.getD n 0
    · have ht := fine_time h (i := n) (by rw [h.l]; omega) h0
      have hg := most_ge S T l n ht T.length (by omega)
      rw [if_pos h0, if_pos (by omega), Int.mul_comm (cZ _)]
      omega
    · rw [if_neg h0, if_neg (by omega)]
      omega
theorem use_hours {S : List Sec} {T : List Shf} {P : List Int} (h : Fine S T P) {l : List Z2} (hc : ∀ k, 0 ≤ cZ (l.getD k z2D)) : ∀ m, m ≤ T.length → sumU S l P S.length m ≤ sumH T l m
  | 0, _ => Int.le_refl _
  | m + 1, hm => by
    have ih := use_hours h hc m (by omega)
    have h1 := Int.mul_le_mul_of_nonneg_left (fine_left h (k := m) (by omega)).1 (hc m)
    simp only [sumU, sumH]
    omega
theorem bound_val {S : List Sec} {T : List Shf} {l : List Z2} (hb : bndE S T l = 0) {P : List Int} (h : Fine S T P) : valV S P P.length ≤ (bndS S T l).1 := by
  have h1 := val_dual h l S.length (Nat.le_refl _)
  have h2 := use_hours h (l := l) (fun k => ((bndB hb).prk k).1) T.length (Nat.le_refl _)
  unfold bndS
  rw [if_pos hb, h.l]
  show _ ≤ bndT S T l / 27720
  refine Int.le_ediv_of_mul_le (by decide) ?_
  unfold bndT
  omega

/-! Late sections. -/
theorem fitN_iff {S : List Sec} {T : List Shf} {i : Nat} : ∀ {m : Nat}, fitN S T i m = true ↔ ∃ k, k < m ∧ inTimeB S T i k = true ∧ (S.getD i secD).wk ≤ (T.getD k shfD).hr ∧ (S.getD i secD).bl ≤ (T.getD k shfD).bl
  | 0 => by simp [fitN]
  | m + 1 => by
    have ih := @fitN_iff S T i m
    have e : fitN S T i (m + 1) = true ↔ fitN S T i m = true ∨ (inTimeB S T i m = true ∧ hrB S T i m = true ∧ blB S T i m = true) := by
      show (bif inTimeB S T i m then (bif fitN S T i m then true else bif hrB S T i m then blB S T i m else false) else fitN S T i m) = true ↔ _
      cases inTimeB S T i m <;> cases fitN S T i m <;> cases hrB S T i m <;> cases blB S T i m <;> simp
    rw [e, ih]
    unfold hrB blB
    simp only [decide_eq_true_eq]
    constructor
    · rintro (⟨k, h1, h2⟩ | h)
      · exact ⟨k, by omega, h2⟩
      · exact ⟨m, by omega, h⟩
    · rintro ⟨k, h1, h2⟩
      by_cases e : k = m
      · subst e; exact .inr h2
      · exact .inl ⟨k, by omega, h2⟩
theorem late_none {S : List Sec} {T : List Shf} {P : List Int} (hB : OffB S T) (h : Fine S T P) {i : Nat} (hi : i < S.length) (hf : fitN S T i T.length = false) : P.getD i 0 = -1 := by
  have hil : i < P.length := by rw [h.l]; exact hi
  have h1 := h.i i hil
  by_cases h0 : 0 ≤ P.getD i 0
  · exfalso
    have ht := fine_time h hil h0
    have hk : (P.getD i 0).toNat < T.length := by omega
    have hl := fine_left h hk
    have hz : P.getD i 0 = (((P.getD i 0).toNat : Nat) : Int) := by omega
    have u1 := useL_one (f := (·.wk)) (S := S) (fun n => (hB.wk n).1) hz S.length hi
    have u2 := useL_one (f := (·.bl)) (S := S) (fun n => (hB.sbl n).1) hz S.length hi
    have := fitN_iff.2 ⟨_, hk, ht, Int.le_trans u1 (by omega), Int.le_trans u2 (by omega)⟩
    rw [hf] at this; cases this
  · omega
theorem lateL_mem {S : List Sec} {T : List Shf} : ∀ {n : Nat} {k : Nat}, k < (lateL S T n).length → ∃ i : Nat, i < n ∧ ((lateL S T n).getD k (0, { data := #[] })).1 = i ∧ fitN S T i T.length = false
  | 0, k, h => by cases h
  | n + 1, k, h => by
    unfold lateL at h ⊢
    by_cases hf : fitN S T n T.length = true
    · rw [if_pos hf] at h ⊢
      obtain ⟨i, h1, h2⟩ := lateL_mem h
      exact ⟨i, by omega, h2⟩
    · rw [if_neg hf] at h ⊢
      by_cases hk : k < (lateL S T n).length
      · obtain ⟨i, h1, h2⟩ := lateL_mem hk
        refine ⟨i, by omega, ?_⟩
        rwa [List.getD_eq_getElem?_getD, List.getElem?_append_left hk, ← List.getD_eq_getElem?_getD]
      · have : k = (lateL S T n).length := by simp at h; omega
        subst this
        refine ⟨n, by omega, ?_, by simpa using hf⟩
        rw [List.getD_eq_getElem?_getD, List.getElem?_append_right (Nat.le_refl _), Nat.sub_self]
        rfl
/-- Whether a section is one of the late ones. -/
theorem lateL_has {S : List Sec} {T : List Shf} {i : Nat} : ∀ {n : Nat}, (∃ r ∈ lateL S T n, r.1 = (i : Int)) ↔ i < n ∧ fitN S T i T.length = false
  | 0 => by simp [lateL]
  | n + 1 => by
    have ih := @lateL_has S T i n
    unfold lateL
    by_cases hf : fitN S T n T.length = true
    · rw [if_pos hf, ih]
      constructor
      · rintro ⟨h1, h2⟩; exact ⟨by omega, h2⟩
      · rintro ⟨h1, h2⟩
        refine ⟨?_, h2⟩
        by_cases e : i = n
        · subst e; rw [hf] at h2; cases h2
        · omega
    · rw [if_neg hf]
      constructor
      · rintro ⟨r, hr, e⟩
        rcases List.mem_append.1 hr with hr | hr
        · have := ih.1 ⟨r, hr, e⟩; exact ⟨by omega, this.2⟩
        · cases List.mem_singleton.1 hr
          have e : ((n : Nat) : Int) = i := e
          obtain rfl : n = i := by omega
          exact ⟨by omega, by simpa using hf⟩
      · rintro ⟨h1, h2⟩
        by_cases e : i = n
        · subst e; exact ⟨_, List.mem_append_right _ (List.mem_singleton.2 rfl), rfl⟩
        · obtain ⟨r, hr, e⟩ := ih.2 ⟨by omega, h2⟩
          exact ⟨r, List.mem_append_left _ hr, e⟩

/-! A section alone. -/
theorem firstR_ofZ {f : Nat → Int} {n : Nat} (h : ∀ k, k < n → f k = 0) : firstS ((List.range n).map f) = 0 := by
  have key : ∀ l : List Int, (∀ x ∈ l, x = 0) → firstS l = 0 := by
    intro l
    induction l with
    | nil => intro _; rfl
    | cons a l ih => intro h; exact (firstS_cons _ _).2 ⟨h a List.mem_cons_self, ih fun x hx => h x (List.mem_cons_of_mem _ hx)⟩
  refine key _ fun x hx => ?_
  obtain ⟨k, hk, rfl⟩ := List.mem_map.1 hx
  exact h k (List.mem_range.1 hk)
theorem alone_off {S : List Sec} {T : List Shf} (h : offE S T = 0) {i : Nat} (hi : i < S.length) : offE [S.getD i secD] T = 0 := by
  have h1 := (firstS_cons _ _).1 h
  have h2 := (firstS_cons _ _).1 h1.2
  have m1 := (firstS_cons _ _).1 h1.1
  have hs := (firstS_cons _ _).1 (firstR_zero h2.1 i hi)
  refine (firstS_cons _ _).2 ⟨(firstS_cons _ _).2 ⟨rfl, m1.2⟩, (firstS_cons _ _).2 ⟨firstR_ofZ fun k hk => ?_, h2.2⟩⟩
  obtain rfl : k = 0 := by simp at hk; omega
  exact (firstS_cons _ _).2 ⟨hs.1, (firstS_cons _ _).2 ⟨rfl, ((firstS_cons _ _).1 hs.2).2⟩⟩
theorem alone_fit (S : List Sec) (T : List Shf) (i m : Nat) : fitN [S.getD i secD] T 0 m = fitN S T i m := by
  induction m with
  | zero => rfl
  | succ m ih =>
    show (bif inTimeB [S.getD i secD] T 0 m then (bif fitN [S.getD i secD] T 0 m then true else bif hrB [S.getD i secD] T 0 m then blB [S.getD i secD] T 0 m else false) else fitN [S.getD i secD] T 0 m) = _
    rw [ih]
    rfl
theorem alone_late {S : List Sec} {T : List Shf} (h : offE S T = 0) {i : Nat} (hi : i < S.length) (hf : fitN S T i T.length = false) : (bestP [S.getD i secD] T).getD 0 0 = -1 := by
  have hB := offB (alone_off h hi)
  exact late_none hB (best_fine hB) (by simp) (by rw [alone_fit]; exact hf)
theorem alone_one {S : List Sec} {T : List Shf} (h : offE S T = 0) {i : Nat} (hi : i < S.length) : (bestP [S.getD i secD] T).length = 1 := (best_fine (offB (alone_off h hi))).l
theorem alone_val {S : List Sec} {T : List Shf} (h : offE S T = 0) {i : Nat} (hi : i < S.length) (hf : fitN S T i T.length = true) (hv : 0 < (S.getD i secD).vl) : 0 ≤ (bestP [S.getD i secD] T).getD 0 0 ∧ (valP [S.getD i secD] T (bestP [S.getD i secD] T)).1 = (S.getD i secD).vl := by
  have hB := offB (alone_off h hi)
  have hl := alone_one h hi
  obtain ⟨k, hk, k1, k2, k3⟩ := fitN_iff.1 hf
  obtain ⟨s, hs⟩ : ∃ s, S.getD i secD = s := ⟨_, rfl⟩
  rw [hs] at hB hl hv k2 k3 ⊢
  have k1 : inTimeB [s] T 0 k = true := by rw [← hs]; exact k1
  have hfine : Fine [s] T [(k : Int)] := by
    refine ⟨rfl, fun j hj => ?_, fitE_zero.2 ⟨fun j hj => ?_, fun j hj => ?_⟩⟩
    · obtain rfl : j = 0 := by simp at hj; omega
      show -1 ≤ (k : Int) ∧ (k : Int) < T.length
      omega
    · obtain rfl : j = 0 := by simp at hj; omega
      unfold lateAt
      show (if 0 ≤ (k : Int) ∧ inTimeB [s] T 0 (k : Int).toNat = false then (23 : Int) else 0) = 0
      rw [Int.toNat_natCast, if_neg]
      rw [k1]; simp
    · rw [shAt_zero]
      unfold leftH leftT
      show 0 ≤ (T.getD j shfD).hr - (0 + (if (k : Int) = j then s.wk else 0)) ∧ 0 ≤ (T.getD j shfD).bl - (0 + (if (k : Int) = j then s.bl else 0))
      by_cases e : (k : Int) = j
      · obtain rfl : k = j := by omega
        rw [if_pos rfl, if_pos rfl]; omega
      · have h1 := hB.hr j
        have h2 := hB.tbl j
        rw [if_neg e, if_neg e]; omega
  have hm := best_max hB hfine
  have hq := (best_fine hB).i 0 (by rw [hl]; omega)
  obtain ⟨q, hqe⟩ : ∃ q, bestP [s] T = q := ⟨_, rfl⟩
  rw [hqe] at hm hl hq ⊢
  have v1 : (valP [s] T [(k : Int)]).1 = s.vl := by
    show 0 + (if 0 ≤ (k : Int) then s.vl else 0) = s.vl
    rw [if_pos (by omega)]; omega
  have v2 : (valP [s] T q).1 = if 0 ≤ q.getD 0 0 then s.vl else 0 := by
    unfold valP
    rw [hl]
    show 0 + (if 0 ≤ q.getD 0 0 then s.vl else 0) = _
    omega
  rw [bet_not, v1, v2] at hm
  by_cases h0 : 0 ≤ q.getD 0 0
  · rw [if_pos h0] at hm v2
    exact ⟨h0, v2⟩
  · rw [if_neg h0] at hm
    exact absurd (.inl hv) hm

/-! A further shift. -/
theorem more_at (T : List Shf) (x : Shf) {k : Nat} (hk : k < T.length) : (T ++ [x]).getD k shfD = T.getD k shfD := by
  rw [List.getD_eq_getElem?_getD, List.getElem?_append_left hk, ← List.getD_eq_getElem?_getD]
theorem more_last (T : List Shf) (x : Shf) : (T ++ [x]).getD T.length shfD = x := by
  rw [List.getD_eq_getElem?_getD, List.getElem?_append_right (Nat.le_refl _), Nat.sub_self]; rfl
theorem useL_out {f : Sec → Int} {S : List Sec} {P : List Int} {k : Int} (h : ∀ i, i < P.length → P.getD i 0 ≠ k) : ∀ n, n ≤ P.length → useL f S P k n = 0
  | 0, _ => rfl
  | n + 1, hn => by
    show useL f S P k n + (if P.getD n 0 = k then f (S.getD n secD) else 0) = 0
    rw [useL_out h n (by omega), if_neg (h n (by omega))]; rfl
theorem more_fine {S : List Sec} {T : List Shf} {P : List Int} (h : Fine S T P) {x : Shf} (hx : 0 ≤ x.hr ∧ 0 ≤ x.bl) : Fine S (T ++ [x]) P := by
  refine ⟨h.l, fun k hk => ?_, fitE_zero.2 ⟨fun i hi => ?_, fun k hk => ?_⟩⟩
  · have := h.i k hk
    simp only [List.length_append, List.length_singleton]
    omega
  · have h1 := (fitE_zero.1 h.f).1 i hi
    have h2 := h.i i hi
    unfold lateAt at h1 ⊢
    by_cases h0 : 0 ≤ P.getD i 0
    · have e : inTimeB S (T ++ [x]) i (P.getD i 0).toNat = inTimeB S T i (P.getD i 0).toNat := by
        unfold inTimeB; rw [more_at T x (by omega)]
      rw [e]; exact h1
    · rw [if_neg (fun c => h0 c.1)]
  · rw [shAt_zero]
    unfold leftH leftT
    by_cases hk2 : k < T.length
    · have h1 := shAt_zero.1 ((fitE_zero.1 h.f).2 k hk2)
      unfold leftH leftT at h1
      rw [more_at T x hk2]; exact h1
    · obtain rfl : k = T.length := by simp at hk; omega
      have hne : ∀ i, i < P.length → P.getD i 0 ≠ (T.length : Int) := fun i hi => by have := h.i i hi; omega
      rw [more_last, useL_out hne _ (Nat.le_refl _), useL_out hne _ (Nat.le_refl _)]
      omega
/-- The day of the last shift, or 0. -/
def dayL (T : List Shf) : Nat → Int
  | 0 => 0
  | k + 1 => (T.getD k shfD).day
theorem more_off {S : List Sec} {T : List Shf} (h : offE S T = 0) (hT : T.length < 3) {a b : Int} (ha : 0 ≤ a ∧ a ≤ 255) (hb : 0 ≤ b ∧ b ≤ 255) : offE S (T ++ [⟨dayL T T.length, a, 10 * b, 0⟩]) = 0 := by
  have hB := offB h
  have h1 := (firstS_cons _ _).1 h
  have h2 := (firstS_cons _ _).1 h1.2
  have h3 := (firstS_cons _ _).1 h2.2
  have m1 := (firstS_cons _ _).1 h1.1
  refine (firstS_cons _ _).2 ⟨(firstS_cons _ _).2 ⟨m1.1, (firstS_cons _ _).2 ⟨(whenS_zero (by decide)).2 (decide_eq_false ?_), rfl⟩⟩, (firstS_cons _ _).2 ⟨h2.1, (firstS_cons _ _).2 ⟨firstR_ofZ fun k hk => ?_, rfl⟩⟩⟩
  · simp; omega
  · by_cases hk2 : k < T.length
    · have h4 := firstR_zero h3.1 k hk2
      unfold shfAt at h4 ⊢
      have e : lastDay (T ++ [⟨dayL T T.length, a, 10 * b, 0⟩]) k = lastDay T k := by
        unfold lastDay
        rw [more_at T _ hk2]
        cases k with
        | zero => rfl
        | succ k => rw [Nat.add_sub_cancel, more_at T _ (show k < T.length by omega)]
      rw [more_at T _ hk2, e]; exact h4
    · obtain rfl : k = T.length := by simp at hk; omega
      unfold shfAt
      rw [more_last]
      have hd : 0 ≤ dayL T T.length ∧ dayL T T.length ≤ 100000 := by
        cases T.length with
        | zero => exact ⟨Int.le_refl 0, show (0 : Int) ≤ 100000 by omega⟩
        | succ k => exact hB.day k
      refine (firstS_cons _ _).2 ⟨(firstS_cons _ _).2 ⟨withinS_zero.2 hd, (firstS_cons _ _).2 ⟨withinS_zero.2 ⟨ha.1, by dsimp only; omega⟩, (firstS_cons _ _).2 ⟨withinS_zero.2 ⟨by dsimp only; omega, by dsimp only; omega⟩, (firstS_cons _ _).2 ⟨withinS_zero.2 ⟨Int.le_refl 0, show (0 : Int) ≤ 1000 by omega⟩, rfl⟩⟩⟩⟩, (firstS_cons _ _).2 ⟨(whenS_zero (by decide)).2 ?_, rfl⟩⟩
      unfold lastDay
      rw [more_last]
      cases e : T.length with
      | zero => rfl
      | succ k =>
        rw [Nat.add_sub_cancel, more_at T _ (show k < T.length by omega)]
        show (bif decide (((k + 1 : Nat) : Int) > 0) then decide ((T.getD k shfD).day < (T.getD k shfD).day) else false) = false
        rw [decide_eq_false (show ¬ (T.getD k shfD).day < (T.getD k shfD).day by omega)]
        cases decide (((k + 1 : Nat) : Int) > 0) <;> rfl
theorem more_val {S : List Sec} {T : List Shf} (h : offE S T = 0) {x : Shf} (h' : offE S (T ++ [x]) = 0) (hx : 0 ≤ x.hr ∧ 0 ≤ x.bl) : (valP S T (bestP S T)).1 ≤ (valP S (T ++ [x]) (bestP S (T ++ [x]))).1 := by
  have hf := best_fine (offB h)
  have := best_max (offB h') (more_fine hf hx)
  rw [bet_not] at this
  have e : (valP S (T ++ [x]) (bestP S T)).1 = (valP S T (bestP S T)).1 := rfl
  omega

end Go.Proofs.YtccddhoeampdjaaGreatDoor
