/- Chapter 5: a registered run is valid; what is at each of its places. No program in sight. -/
import Derived.Test.YtoopgdchiljmiaaGreatDoorIs
set_option linter.unusedVariables false
set_option linter.unusedSimpArgs false
namespace Go.Proofs.YtoopgdchiljmiaaGreatDoor
open Go.RowKit Go.Sym

/-- Holes within so many places, in order, apart. -/
def VH (n : Int) (l : List (Int × Int)) : Prop := (l.Pairwise fun x y => x.2 < y.1) ∧ ∀ h ∈ l, 0 ≤ h.1 ∧ h.1 < h.2 ∧ h.2 ≤ n
theorem vh_holes {n : Int} : ∀ {l : List (Int × Int)} {last : Int}, VH n l → (∀ h ∈ l, last < h.1) → holesS n last l = 0
  | [], _, _, _ => rfl
  | h :: l, last, hv, hl => by
    have h1 := hv.2 h List.mem_cons_self
    have h2 := hl h List.mem_cons_self
    have hz : holeS n last h = 0 := by
      unfold holeS spanS
      rw [firstS_cons, firstS_cons, whenS_zero (by decide), whenS_zero (by decide)]
      refine ⟨?_, decide_eq_false (by omega), rfl⟩
      rw [decide_eq_false (show ¬ h.1 < 0 by omega), decide_eq_false (show ¬ h.2 ≤ h.1 by omega), decide_eq_false (show ¬ n < h.2 by omega)]
      rfl
    unfold holesS
    rw [hz, if_neg (by decide)]
    obtain ⟨p1, p2⟩ := List.pairwise_cons.1 hv.1
    exact vh_holes ⟨p2, fun x hx => hv.2 x (List.mem_cons_of_mem _ hx)⟩ p1
theorem lng_nil (i : Int) : lngS [] i = [(i, i + 1)] := by unfold lngS; rw [if_neg (by simp)]; rfl
theorem lng_snoc (l : List (Int × Int)) (x : Int × Int) (i : Int) : lngS (l ++ [x]) i = if x.2 = i then l ++ [(x.1, i + 1)] else l ++ [x] ++ [(i, i + 1)] := by
  have e1 : (l ++ [x]).length - 1 = l.length := by simp
  have e2 : (l ++ [x]).getD l.length (0, 0) = x := by simp [List.getD_eq_getElem?_getD]
  unfold lngS
  rw [e1, e2]
  by_cases h : x.2 = i
  · rw [if_pos ⟨by simp, h⟩, if_pos h, List.set_append_right _ _ (Nat.le_refl _), Nat.sub_self]
    rfl
  · rw [if_neg (fun k => h k.2), if_neg h]
theorem vh_lng {i : Nat} {l : List (Int × Int)} (h : VH i l) : VH (i + 1 : Nat) (lngS l i) ∧ ∀ j : Int, knownB (lngS l i) j = true ↔ knownB l j = true ∧ j ≠ i := by
  rcases List.eq_nil_or_concat l with rfl | ⟨l, x, rfl⟩
  · rw [lng_nil]
    refine ⟨⟨List.pairwise_singleton _ _, fun h hh => ?_⟩, fun j => ?_⟩
    · rw [List.mem_singleton.1 hh]; dsimp only; omega
    · unfold knownB
      simp
      omega
  · rw [List.concat_eq_append] at h ⊢
    obtain ⟨h1, h2⟩ := h
    obtain ⟨p1, _, p3⟩ := List.pairwise_append.1 h1
    have hx := h2 x (by simp)
    rw [lng_snoc]
    split
    · rename_i he
      refine ⟨⟨List.pairwise_append.2 ⟨p1, List.pairwise_singleton _ _, fun a ha b hb => ?_⟩, fun y hy => ?_⟩, fun j => ?_⟩
      · rw [List.mem_singleton.1 hb]
        exact p3 a ha x (by simp)
      · rcases List.mem_append.1 hy with hy | hy
        · have := h2 y (by simp [hy]); omega
        · rw [List.mem_singleton.1 hy]; dsimp only; omega
      · rw [knownB_snoc, knownB_snoc]
        dsimp only
        constructor
        · rintro ⟨a, b⟩; exact ⟨⟨a, by omega⟩, by omega⟩
        · rintro ⟨⟨a, b⟩, c⟩; exact ⟨a, by omega⟩
    · rename_i he
      refine ⟨⟨List.pairwise_append.2 ⟨h1, List.pairwise_singleton _ _, fun a ha b hb => ?_⟩, fun y hy => ?_⟩, fun j => ?_⟩
      · rw [List.mem_singleton.1 hb]
        dsimp only
        rcases List.mem_append.1 ha with ha | ha
        · have := p3 a ha x (by simp); omega
        · rw [List.mem_singleton.1 ha]; omega
      · rcases List.mem_append.1 hy with hy | hy
        · have := h2 y hy; omega
        · rw [List.mem_singleton.1 hy]; dsimp only; omega
      · rw [knownB_snoc]
        dsimp only
        constructor
        · rintro ⟨a, b⟩; exact ⟨a, by omega⟩
        · rintro ⟨a, b⟩; exact ⟨a, by omega⟩
theorem vh_mono {n m : Int} {l : List (Int × Int)} (h : VH n l) (hnm : n ≤ m) : VH m l := ⟨h.1, fun x hx => by have := h.2 x hx; omega⟩
theorem mdH_ok (kn : List Bool) : ∀ i : Nat, VH i (mdH kn i) ∧ ∀ j : Nat, knownB (mdH kn i) j = true ↔ (j < i → kn.getD j false = true)
  | 0 => ⟨⟨.nil, fun h hh => by cases hh⟩, fun j => by simp [mdH, knownB]⟩
  | i + 1 => by
    obtain ⟨h1, h2⟩ := mdH_ok kn i
    unfold mdH
    by_cases hk : kn.getD i false = true
    · rw [if_pos hk]
      refine ⟨vh_mono h1 (by omega), fun j => ?_⟩
      rw [h2 j]
      constructor
      · intro h hj
        by_cases e : j = i
        · subst e; exact hk
        · exact h (by omega)
      · intro h hj; exact h (by omega)
    · rw [if_neg hk]
      obtain ⟨h3, h4⟩ := vh_lng h1
      refine ⟨h3, fun j => ?_⟩
      rw [h4, h2 j]
      constructor
      · rintro ⟨h, hj⟩ hji; exact h (by omega)
      · intro h
        refine ⟨fun hj => h (by omega), fun e => ?_⟩
        have : j = i := by omega
        subst this
        exact hk (h (by omega))
theorem mdH_holes (kn : List Bool) (n : Nat) : HolesOk n (mdH kn n) := fun p hp => (mdH_ok kn n).1.2 p hp
theorem nz_null : nzF 0 = 0 := by decide +kernel
theorem part_null' : partS 0 = 0 := by decide +kernel
/-- A run of readings by places is valid. -/
theorem mdR_ok {name : ByteArray} {f : Int} {A : List (Nat × Bool)} (hn : nameOk name = true) (hf : 0 ≤ f) (hl : A.length ≤ 4096) (he : f + (A.length : Int) ≤ 100000000) (hok : ∀ p ∈ A, (p.2 = true → partS p.1 = 0) ∧ (p.2 = false → p.1 = 0)) : runE (mdR name f A) = 0 := by
  have hle : (mdR name f A).smp.length = A.length := by show (A.map _).length = _; rw [List.length_map]
  have h1 : headR (mdR name f A) = 0 := by
    unfold headR
    rw [firstS_cons, firstS_cons, firstS_cons, withinS_zero, whenS_zero (by decide), whenS_zero (by decide), hle]
    refine ⟨by show (!nameOk name) = false; rw [hn]; rfl, by show 0 ≤ f ∧ f ≤ 100000000; omega, decide_eq_false (by omega), rfl⟩
  have h2 : bodyR (mdR name f A) = 0 := by
    unfold bodyR
    rw [firstS_cons, firstS_cons, whenS_zero (by decide), hle]
    refine ⟨?_, decide_eq_false (by show ¬ 100000000 < f + (A.length : Int); omega), rfl⟩
    rw [firstS_eq]
    intro x hx
    obtain ⟨b, hb, rfl⟩ := List.mem_map.1 hx
    obtain ⟨p, hp, rfl⟩ := List.mem_map.1 hb
    cases hk : p.2 with
    | true => exact (hok p hp).1 hk
    | false => rw [(hok p hp).2 hk]; exact part_null'
  have h3 : holesS (mdR name f A).smp.length (-1) (mdR name f A).holes = 0 := by
    rw [hle]
    have hv := (mdH_ok (A.map (·.2)) A.length).1
    exact vh_holes hv fun h hh => by have := hv.2 h hh; omega
  have h4 : formS ((mdR name f A).smp.map nzF) (mdR name f A).holes = 0 := by
    have hh : HolesOk ((mdR name f A).smp.map nzF).length (mdR name f A).holes := by
      rw [List.length_map, hle]; exact mdH_holes _ _
    obtain ⟨g1, g2⟩ := formS_eq _ _ hh
    rcases g1 with g1 | g1
    · exfalso
      obtain ⟨i, hi, hne, hk⟩ := g2.1 g1
      rw [List.length_map, hle] at hi
      have hk2 := (mdH_ok (A.map (·.2)) A.length).2 i
      have hf : knownB (mdR name f A).holes i = knownB (mdH (A.map (·.2)) A.length) i := rfl
      rw [hf] at hk
      have hu : (A.map (·.2)).getD i false = false := by
        cases e : (A.map (·.2)).getD i false with
        | false => rfl
        | true => rw [hk2.2 fun _ => e] at hk; cases hk
      rw [map_at (fun x : Nat × Bool => x.2) (0, false) false A i hi] at hu
      apply hne
      rw [map_at nzF 0 0 _ i (by rw [hle]; exact hi)]
      show nzF ((A.map (·.1)).getD i 0) = 0
      rw [map_at (fun x : Nat × Bool => x.1) (0, false) 0 A i hi]
      have hm : A.getD i (0, false) ∈ A := by
        rw [List.getD_eq_getElem?_getD, List.getElem?_eq_getElem hi]
        exact List.getElem_mem hi
      rw [(hok _ hm).2 hu]
      exact nz_null
    · exact g1
  rw [runE_eq, if_neg (fun h => h h1), if_neg (fun h => h h2)]
  unfold holeR
  rw [if_neg (fun h => h h3)]
  exact h4
/-- The last known sample of a place. -/
def lwS (t : Rn) (g : Nat → Nat) (j : Nat) : Nat → Bool × Int
  | 0 => (false, 0)
  | k + 1 => if g k = j ∧ knownB t.holes k = true then (true, cutW (x16 (t.smp.getD k 0))) else lwS t g j k
theorem rgA_last (t : Rn) (g : Nat → Nat) (N j : Nat) (hj : j < N) : ∀ k, (lwS t g j k).1 = ((rgA t g N k).getD j (0, false)).2 ∧ (lwS t g j k).2 = lvP ((rgA t g N k).getD j (0, false))
  | 0 => by
    have e : (rgA t g N 0).getD j (0, false) = (0, false) := by unfold rgA; rw [List.getD_eq_getElem?_getD, List.getElem?_replicate, if_pos hj]; rfl
    rw [e]
    exact ⟨rfl, rfl⟩
  | k + 1 => by
    have ih := rgA_last t g N j hj k
    have hl := rgA_len t g N k
    have h1 : rgA t g N (k + 1) = if knownB t.holes k = true then (rgA t g N k).set (g k) (t.smp.getD k 0, true) else rgA t g N k := rfl
    have h2 : lwS t g j (k + 1) = if g k = j ∧ knownB t.holes k = true then (true, cutW (x16 (t.smp.getD k 0))) else lwS t g j k := rfl
    generalize rgA t g N k = A at ih hl h1
    rw [h1, h2]
    by_cases hk : knownB t.holes k = true
    · rw [if_pos hk]
      by_cases hg : g k = j
      · have e : (A.set (g k) (t.smp.getD k 0, true)).getD j (0, false) = (t.smp.getD k 0, true) := by
          rw [List.getD_eq_getElem?_getD, hg, List.getElem?_set_self (by omega)]; rfl
        rw [if_pos ⟨hg, hk⟩, e]
        exact ⟨rfl, rfl⟩
      · have e : (A.set (g k) (t.smp.getD k 0, true)).getD j (0, false) = A.getD j (0, false) := by
          rw [List.getD_eq_getElem?_getD, List.getElem?_set_ne hg, ← List.getD_eq_getElem?_getD]
        rw [if_neg (fun h => hg h.1), e]
        exact ih
    · rw [if_neg hk, if_neg (fun h => hk h.2)]
      exact ih

end Go.Proofs.YtoopgdchiljmiaaGreatDoor
