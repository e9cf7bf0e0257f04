/- PlanDays, in plain Lean: what is asked of the chain and of the best sequence. -/
import Derived.Test.YtlhgddgoblliaaaGreatDoorVx
import Derived.Test.YtlhgddgoblliaaaGreatDoorVk
set_option linter.unusedVariables false
set_option linter.unusedSimpArgs false
namespace Go.Proofs.YtlhgddgoblliaaaGreatDoor
open Go.RowKit Go.Sym

section
variable {l : List Jb} {H : List Int} {hi : Int} {e : Nat}
/-! Sequences that are good. -/
theorem good_iff (hk : Knw l) (he : e ≤ H.length) {d : List Int} (hE : Ext [] l.length e d) : Good (rP l H hi) (rL l H hi) 0 d ↔ ∀ i, i < l.length → ckS l H hi d i = 0 := by
  have hd : d.length = l.length := by have := hE.len; simpa using this
  have hr : ∀ i, i < l.length → 0 ≤ dyD d i ∧ dyD d i < H.length := fun i hi => by
    have := hE.rng i (Nat.zero_le _) (by omega)
    unfold dyD; omega
  constructor
  · intro h
    exact (csX_zero hd hr).1 h.leaf
  · intro h
    refine ⟨(csX_zero hd hr).2 h, fun k hk1 hk2 => ?_⟩
    obtain ⟨i, rfl⟩ : ∃ i, k = i + 1 := ⟨k - 1, by omega⟩
    have hi2 : i < l.length := by omega
    unfold rP
    rw [show (d.take (i + 1)).length - 1 = i by rw [List.length_take]; omega]
    obtain ⟨g1, g2, g3⟩ := ckS_zero.1 (h i hi2)
    exact (part_zero hk hd hi2 (hr i hi2).1).2 ⟨fun q hq _ => g1 q hq, g2, g3⟩
theorem ck_cg {H' : List Int} {d : List Int} {i : Nat} (h0 : 0 ≤ dyD d i) (he : dyD d i < e) (hs : ∀ j, j < e → H'.getD j 0 = H.getD j 0) : ckS l H' hi d i = 0 ↔ ckS l H hi d i = 0 := by
  have hh : hotB l H' hi d i = hotB l H hi d i := by
    unfold hotB
    rw [hs _ (by omega)]
  rw [ckS_zero, ckS_zero, hh]
theorem rq_some {k : Nat} {x : List Int} (hk : Knw l) (hkH : k < H.length) (h : rqB l H hi k = some x) : Ext [] l.length (k + 1) x ∧ ∀ i, i < l.length → ckS l H hi x i = 0 := by
  unfold rqB at h
  rw [rsF_dfs] at h
  obtain ⟨h1, h2⟩ := dfs_some h
  exact ⟨h1, (good_iff hk (by omega) h1).1 h2⟩
theorem rq_none {k : Nat} (hk : Knw l) (hkH : k < H.length) (h : rqB l H hi k = none) : ∀ x, Ext [] l.length (k + 1) x → ¬ ∀ i, i < l.length → ckS l H hi x i = 0 := by
  unfold rqB at h
  rw [rsF_dfs] at h
  exact fun x hE hG => dfs_none h x hE ((good_iff hk (by omega) hE).2 hG)
theorem ext_day {k : Nat} {x : List Int} (hE : Ext [] l.length (k + 1) x) {i : Nat} (hi2 : i < l.length) : 0 ≤ dyD x i ∧ dyD x i < (k + 1 : Nat) := hE.rng i (Nat.zero_le _) (by have := hE.len; simp at this; omega)
/-- What the best sequence is. -/
structure Best (l : List Jb) (H : List Int) (hi : Int) (x : List Int) (d : Nat) : Prop where
  last : d < H.length
  ext : Ext [] l.length (d + 1) x
  zero : ∀ i, i < l.length → ckS l H hi x i = 0
  top : grS x = d
  less : ∀ k, k < d → rqB l H hi k = none
theorem best_of (hk : Knw l) (hn : jbsE l = 0) {x : List Int} {d : Nat} (h : sqF l H hi = some (x, d)) : Best l H hi x d := by
  obtain ⟨c, h1, h2, h3⟩ := tryF_first h
  rw [sqB_is hk hn h1] at h2
  have hdc : c = d := by
    cases e : rqB l H hi c with
    | none => rw [e] at h2; cases h2
    | some y => rw [e] at h2; cases h2; rfl
  subst hdc
  have hx : rqB l H hi c = some x := by
    cases e : rqB l H hi c with
    | none => rw [e] at h2; cases h2
    | some y => rw [e] at h2; cases h2; rfl
  obtain ⟨e1, e2⟩ := rq_some hk h1 hx
  refine ⟨h1, e1, e2, (sq_some hk hn h).2.1, fun k hkc => ?_⟩
  have := h3 k hkc
  rw [sqB_is hk hn (by omega)] at this
  cases e : rqB l H hi k with
  | none => rfl
  | some x => rw [e] at this; cases this
theorem sq_no (hk : Knw l) (hn : jbsE l = 0) (h : ∀ k, k < H.length → rqB l H hi k = none) : sqF l H hi = none := tryF_none fun i hi2 => by rw [sqB_is hk hn hi2, h i hi2]; rfl
theorem sq_yes (hk : Knw l) (hn : jbsE l = 0) {k : Nat} (hkH : k < H.length) (h : rqB l H hi k ≠ none) : ∃ x d, sqF l H hi = some (x, d) ∧ d ≤ k := by
  cases e : sqF l H hi with
  | none =>
    have := tryF_no e hkH
    rw [sqB_is hk hn hkH] at this
    cases e2 : rqB l H hi k with
    | none => exact absurd e2 h
    | some x => rw [e2] at this; cases this
  | some p =>
    obtain ⟨x, d⟩ := p
    have hb := best_of hk hn e
    refine ⟨x, d, rfl, ?_⟩
    by_cases hdk : d ≤ k
    · exact hdk
    · exact absurd (hb.less k (by omega)) h
/-- With the days before its last day alone there is none. -/
theorem fewer (hk : Knw l) (hn : jbsE l = 0) {x : List Int} {d : Nat} (hb : Best l H hi x d) : sqF l (H.take d) hi = none := by
  have hl : (H.take d).length = d := by have := hb.last; rw [List.length_take]; omega
  refine sq_no hk hn fun k hkd => ?_
  rw [hl] at hkd
  have hno := hb.less k hkd
  cases e : rqB l (H.take d) hi k with
  | none => rfl
  | some y =>
    obtain ⟨e1, e2⟩ := rq_some hk (by rw [hl]; exact hkd) e
    refine absurd (fun i hi2 => ?_) (rq_none hk (by have := hb.last; omega) hno y e1)
    obtain ⟨g1, g2⟩ := ext_day e1 hi2
    refine (ck_cg (e := k + 1) g1 g2 fun j hj => ?_).2 (e2 i hi2)
    rw [List.getD_eq_getElem?_getD, List.getD_eq_getElem?_getD, List.getElem?_take_of_lt (by omega)]
/-- With a further day it does not end later. -/
theorem further (hk : Knw l) (hn : jbsE l = 0) {x : List Int} {d : Nat} (hb : Best l H hi x d) (t : Int) : ∃ y d', sqF l (H ++ [t]) hi = some (y, d') ∧ d' ≤ d := by
  have hl : (H ++ [t]).length = H.length + 1 := by simp
  have hd := hb.last
  refine sq_yes hk hn (by rw [hl]; omega) fun h => ?_
  refine absurd (fun i hi2 => ?_) (rq_none hk (by rw [hl]; omega) h x hb.ext)
  obtain ⟨g1, g2⟩ := ext_day hb.ext hi2
  refine (ck_cg (e := d + 1) g1 g2 fun j hj => ?_).2 (hb.zero i hi2)
  rw [List.getD_eq_getElem?_getD, List.getD_eq_getElem?_getD, List.getElem?_append_left (by omega)]

/-! Chains. -/
theorem bst_at {g : Nat → List Nat} {p : Nat → Bool} : ∀ {k : Nat}, bstC g p k = [] ∨ ∃ j, j < k ∧ p j = true ∧ bstC g p k = g j
  | 0 => .inl rfl
  | k + 1 => by
    simp only [bstC]
    have ih := bst_at (g := g) (p := p) (k := k)
    by_cases hp : p k = true
    · rw [if_pos hp]
      by_cases hl : (bstC g p k).length < (g k).length
      · rw [if_pos hl]; exact .inr ⟨k, by omega, hp, rfl⟩
      · rw [if_neg hl]
        rcases ih with h | ⟨j, h1, h2, h3⟩
        · exact .inl h
        · exact .inr ⟨j, by omega, h2, h3⟩
    · rw [if_neg hp]
      rcases ih with h | ⟨j, h1, h2, h3⟩
      · exact .inl h
      · exact .inr ⟨j, by omega, h2, h3⟩
theorem cF_steps {n : Nat} {E : Nat → Nat → Bool} : ∀ (f i : Nat), (∀ t, t + 1 < (cF n E f i).length → E ((cF n E f i).getD t 0) ((cF n E f i).getD (t + 1) 0) = true) ∧ (0 < f → (cF n E f i).getD 0 0 = i)
  | 0, i => ⟨fun t ht => by simp [cF] at ht, fun h => by omega⟩
  | f + 1, i => by
    refine ⟨fun t ht => ?_, fun _ => rfl⟩
    simp only [cF] at ht ⊢
    rcases bst_at (g := cF n E f) (p := E i) (k := n) with h | ⟨j, h1, h2, h3⟩
    · rw [h] at ht; simp at ht
    · rw [h3] at ht ⊢
      cases t with
      | zero =>
        have hf : 0 < f := by
          cases f with
          | zero => simp [cF] at ht
          | succ f => omega
        have := (cF_steps (n := n) (E := E) f j).2 hf
        simp only [List.getD_cons_zero, List.getD_cons_succ]
        rw [this]; exact h2
      | succ t =>
        simp only [List.getD_cons_succ]
        exact (cF_steps (n := n) (E := E) f j).1 t (by simpa using ht)
theorem chB_steps (l : List Jb) : ∀ t, t + 1 < (chB l).length → edJ l ((chB l).getD t 0) ((chB l).getD (t + 1) 0) = true := by
  rcases bst_at (g := chG l) (p := fun _ => true) (k := l.length) with h | ⟨j, h1, h2, h3⟩
  · intro t ht
    have : chB l = [] := h
    rw [this] at ht; simp at ht
  · have : chB l = cF l.length (edJ l) l.length j := h3
    rw [this]
    exact (cF_steps _ _).1
theorem chB_at {l : List Jb} {t : Nat} (h : t < (chB l).length) : (chB l).getD t 0 < l.length := chB_in l _ (getD_mem h)
theorem chS_at {l : List Jb} {t : Nat} (h : t < (chB l).length) : (chS l).getD t ByteArray.empty = (l.getD ((chB l).getD t 0) jbD).name := by
  unfold chS nmsJ
  simp [List.getD_eq_getElem?_getD, List.getElem?_eq_getElem h]
theorem edge_day {x : List Int} (hk : Knw l) (hn : jbsE l = 0) (hz : ∀ i, i < l.length → ckS l H hi x i = 0) {i k : Nat} (hi2 : i < l.length) (hk2 : k < l.length) (h : edJ l i k = true) : dyD x i < dyD x k := by
  obtain ⟨q, hq, he⟩ := List.getElem_of_mem (memS_iff.1 h)
  have haf : afJ l k q = (l.getD i jbD).name := by
    show (l.getD k jbD).af.getD q ByteArray.empty = _
    rw [List.getD_eq_getElem?_getD, List.getElem?_eq_getElem hq]
    exact he
  have := (ckS_zero.1 (hz k hk2)).1 q hq
  rw [haf, ix_name hn hi2, Int.toNat_natCast] at this
  omega
theorem chain_day {x : List Int} {d : Nat} (hk : Knw l) (hn : jbsE l = 0) (hb : Best l H hi x d) : ∀ t, t < (chB l).length → (t : Int) ≤ dyD x ((chB l).getD t 0)
  | 0, h => (ext_day hb.ext (chB_at h)).1
  | t + 1, h => by
    have ih := chain_day hk hn hb t (by omega)
    have := edge_day hk hn hb.zero (chB_at (by omega)) (chB_at h) (chB_steps l t h)
    omega
theorem chain_last {x : List Int} {d : Nat} (hk : Knw l) (hn : jbsE l = 0) (hb : Best l H hi x d) : (chS l).length ≤ d + 1 := by
  have hl : (chS l).length = (chB l).length := nmsJ_len _ _
  rw [hl]
  rcases Nat.eq_zero_or_pos (chB l).length with h | h
  · omega
  · have h1 := chain_day hk hn hb ((chB l).length - 1) (by omega)
    have h2 := (ext_day hb.ext (chB_at (t := (chB l).length - 1) (by omega))).2
    omega
/-! The last job of a name. -/
def lstK (l : List Jb) (s : ByteArray) : Nat → Int
  | 0 => -1
  | j + 1 => if (l.getD j jbD).name = s then j else lstK l s j
theorem name_inj (hn : jbsE l = 0) {i j : Nat} (hi2 : i < l.length) (hj : j < l.length) (h : (l.getD i jbD).name = (l.getD j jbD).name) : i = j := by
  have h1 := ix_name hn hi2
  have h2 := ix_name hn hj
  rw [h] at h1
  omega
theorem lstK_at (hn : jbsE l = 0) {m : Nat} (hm : m < l.length) : ∀ {j : Nat}, m < j → j ≤ l.length → lstK l (l.getD m jbD).name j = m
  | 0, h, _ => by omega
  | j + 1, h, hj => by
    simp only [lstK]
    by_cases e : m = j
    · subst e; rw [if_pos rfl]
    · rw [if_neg fun h2 => e (name_inj hn (by omega) hm h2).symm]
      exact lstK_at hn hm (by omega) (by omega)
/-! The temperatures. -/
theorem heatE_zero {H : List Int} : heatE H = 0 ↔ 0 < H.length ∧ H.length ≤ 12 ∧ ∀ x ∈ H, -1000 ≤ x ∧ x ≤ 1000 := by
  constructor
  · intro h
    obtain ⟨a, b⟩ := heatE_ok h
    have h1 := (firstS_cons _ _).1 h
    have h2 := (firstS_cons _ _).1 h1.2
    have h3 := (firstS_cons _ _).1 h2.2
    exact ⟨a, b, rangeL_zero h3.1⟩
  · rintro ⟨a, b, c⟩
    have hr : firstS (rangeL (-1000) 1000 H) = 0 := firstS_allz fun y hy => by
      unfold rangeL at hy
      obtain ⟨x, hx, rfl⟩ := List.mem_map.1 hy
      have := c x hx
      unfold withinS
      split <;> (try omega)
      all_goals (try rfl)
    unfold heatE
    rw [decide_eq_false (by omega), decide_eq_false (by omega), hr]
    rfl
theorem heat_take {H : List Int} {d : Nat} (h : heatE H = 0) (h0 : 0 < d) (hd : d < H.length) : heatE (H.take d) = 0 := by
  obtain ⟨a, b, c⟩ := heatE_zero.1 h
  exact heatE_zero.2 ⟨by rw [List.length_take]; omega, by rw [List.length_take]; omega, fun x hx => c x (List.mem_of_mem_take hx)⟩
theorem heat_more {H : List Int} (h : heatE H = 0) (hl : H.length < 5) : heatE (H ++ [0]) = 0 := by
  obtain ⟨a, b, c⟩ := heatE_zero.1 h
  refine heatE_zero.2 ⟨by simp, by simp; omega, fun x hx => ?_⟩
  rcases List.mem_append.1 hx with h2 | h2
  · exact c x h2
  · rw [List.mem_singleton.1 h2]; omega
end

/-! What the law asks. -/
structure ChF (l : List Jb) (C : List ByteArray) : Prop where
  pos : 1 ≤ C.length
  le : C.length ≤ l.length
  at_ : ∀ i, i < C.length → ∃ m, m < l.length ∧ lstK l (C.getD i ByteArray.empty) l.length = m ∧ (0 < i → memS (l.getD m jbD).af (C.getD (i - 1) ByteArray.empty) = true)
theorem chF_of {l : List Jb} (hz : jobsE l = 0) (h0 : 0 < l.length) : chR l = chS l ∧ chE2 l = 0 ∧ ChF l (chS l) := by
  have he : chE2 l = 0 := by
    unfold chE2
    rw [hz, decide_eq_false (by omega)]; rfl
  obtain ⟨_, _, _, hn, hc⟩ := chE2_zero he
  obtain ⟨rk, hrk⟩ := jobs_ranked hn hc
  have hl : (chS l).length = (chB l).length := nmsJ_len _ _
  have hp := chB_pos hrk
  refine ⟨if_pos he, he, ⟨?_, ?_, fun i hi => ?_⟩⟩
  · rw [hl]
    rcases Nat.eq_zero_or_pos (chB l).length with h | h
    · have := hp.1 h; omega
    · exact h
  · rw [hl]; exact bsJ_len l _ _
  · rw [hl] at hi
    have hm := chB_at hi
    refine ⟨(chB l).getD i 0, hm, ?_, fun hi0 => ?_⟩
    · rw [chS_at hi]; exact lstK_at hn hm hm (Nat.le_refl _)
    · have h1 := chB_steps l (i - 1) (by omega)
      rw [show i - 1 + 1 = i by omega] at h1
      rw [chS_at (t := i - 1) (by omega)]
      exact h1
structure SqF (l : List Jb) (H : List Int) (lo hi : Int) (m : Nat) (x : List Int) (d : Nat) : Prop where
  sq : sqR l H lo hi = (x, (d : Int), 0)
  len : x.length = l.length
  ck : csR l H lo hi x = ((d : Int), 0)
  last : d < H.length
  many : m ≤ d + 1
  less : 0 < d → sqR l (H.take d) lo hi = ([], 0, 18)
  more : H.length < 5 → ∃ y d', sqR l (H ++ [0]) lo hi = (y, ((d' : Nat) : Int), 0) ∧ d' ≤ d ∧ y.length = l.length
theorem sqE_of {l : List Jb} {H : List Int} {lo hi : Int} (h1 : jobsE l = 0) (h2 : heatE H = 0) (h3 : bandS lo hi = 0) : sqE l H lo hi = 0 := by
  unfold sqE
  rw [h1, h2, h3]; rfl
theorem sqF_of {l : List Jb} {H : List Int} {lo hi : Int} (h1 : jobsE l = 0) (h2 : heatE H = 0) (h3 : bandS lo hi = 0) : sqR l H lo hi = ([], 0, 18) ∨ ∃ x d, SqF l H lo hi (chS l).length x d := by
  have hk := knw_of h1
  have hn : jbsE l = 0 := by
    unfold jobsE at h1
    split at h1
    · cases h1
    · exact ((firstS_cons _ _).1 h1).1
  have ho := sqE_of h1 h2 h3
  have hR : ∀ {H : List Int}, sqE l H lo hi = 0 → sqR l H lo hi = (match sqF l H hi with | some x => (x.1, (x.2 : Int), 0) | none => ([], 0, 18)) := fun {H} h => if_pos h
  cases e : sqF l H hi with
  | none => left; rw [hR ho, e]
  | some p =>
    obtain ⟨x, d⟩ := p
    right
    have hb := best_of hk hn e
    obtain ⟨s1, s2, s3, s4⟩ := sq_some hk hn e
    have hr : ∀ i, i < l.length → 0 ≤ dyD x i ∧ dyD x i < H.length := fun i hi2 => by
      have := ext_day hb.ext hi2
      omega
    have hcs : csX l H hi x = 0 := (csX_zero s3 hr).2 hb.zero
    refine ⟨x, d, ⟨by rw [hR ho, e], s3, ?_, s4, chain_last hk hn hb, fun hd => ?_, fun hH => ?_⟩⟩
    · have : csE l H lo hi x = 0 := by
        unfold csE
        rw [h1, h2, h3, decide_eq_false (by omega)]; rfl
      unfold csR
      rw [if_pos this, if_pos hcs, s2]
    · rw [hR (sqE_of h1 (heat_take h2 hd s4) h3), fewer hk hn hb]
    · obtain ⟨y, d', g1, g2⟩ := further hk hn hb 0
      refine ⟨y, d', by rw [hR (sqE_of h1 (heat_more h2 hH) h3), g1], g2, ?_⟩
      exact (sq_some hk hn g1).2.2.1
/-- No jobs. -/
theorem sq_nil {l : List Jb} {H : List Int} {lo hi : Int} (h0 : l.length = 0) (h1 : jobsE l = 0) (h2 : heatE H = 0) (h3 : bandS lo hi = 0) : sqR l H lo hi = ([], 0, 0) := by
  have hl : l = [] := List.eq_nil_of_length_eq_zero h0
  subst hl
  have hs : sqF [] H hi = some ([], 0) := tryF_hit (k := 0) (show sqB [] H hi 0 = some ([], 0) from rfl) (fun i hi => by omega) (heatE_ok h2).1
  unfold sqR
  rw [if_pos (sqE_of h1 h2 h3), hs]
  rfl

end Go.Proofs.YtlhgddgoblliaaaGreatDoor
