/- Chapter 9: all lists, in their order; the best of some. -/
import Derived.Test.YtccddhoeampdjaaGreatDoorOf
set_option linter.unusedVariables false
set_option linter.unusedSimpArgs false
namespace Go.Proofs.YtccddhoeampdjaaGreatDoor
open Go.RowKit Go.Sym

/-- The list behind one. -/
def nxt (m : Nat) : List Int → Option (List Int)
  | [] => none
  | d :: ds => match nxt m ds with
    | some es => some (d :: es)
    | none => if d = (m : Int) - 1 then none else some ((d + 1) :: List.replicate ds.length (-1))
theorem nxt_full {m : Nat} {B : List Int} (h : ∀ x ∈ B, x = (m : Int) - 1) : nxt m B = none := by
  induction B with
  | nil => rfl
  | cons d B ih =>
    simp only [nxt, ih (fun x hx => h x (List.mem_cons_of_mem _ hx))]
    rw [if_pos (h d List.mem_cons_self)]
theorem nxt_mid {m : Nat} {B : List Int} (h : ∀ x ∈ B, x = (m : Int) - 1) {d : Int} (hd : d ≠ (m : Int) - 1) : ∀ A : List Int, nxt m (A ++ d :: B) = some (A ++ (d + 1) :: List.replicate B.length (-1))
  | [] => by
    simp only [List.nil_append, nxt, nxt_full h]
    rw [if_neg hd]
  | a :: A => by
    simp only [List.cons_append, nxt, nxt_mid h hd A]
/-- The list with its numbers from some place on put back. -/
def back (P : List Int) (c : Nat) : List Int := P.take c ++ List.replicate (P.length - c) (-1)
theorem back_len {P : List Int} {c : Nat} (h : c ≤ P.length) : (back P c).length = P.length := by
  simp [back]; omega
theorem back_all (P : List Int) : back P P.length = P := by simp [back]
theorem back_at {P : List Int} {c : Nat} (h : c < P.length) : (back P (c + 1)).getD c 0 = P.getD c 0 := by
  unfold back
  rw [List.getD_eq_getElem?_getD, List.getElem?_append_left (by simp; omega), List.getElem?_take_of_lt (by omega), ← List.getD_eq_getElem?_getD]
theorem takeI_snoc {P : List Int} {c : Nat} (h : c < P.length) : P.take (c + 1) = P.take c ++ [P.getD c 0] := by
  rw [List.take_add_one, List.getElem?_eq_getElem h]
  simp [List.getD_eq_getElem?_getD, h]
theorem back_set {P : List Int} {c : Nat} (h : c < P.length) (v : Int) : (back P (c + 1)).set c v = P.take c ++ v :: List.replicate (P.length - (c + 1)) (-1) := by
  unfold back
  rw [takeI_snoc h, List.append_assoc, List.set_append_right _ _ (by rw [List.length_take]; omega), List.length_take, Nat.min_eq_left (by omega), Nat.sub_self]
  rfl
theorem back_step {P : List Int} {c : Nat} (h : c < P.length) : (back P (c + 1)).set c (-1) = back P c := by
  rw [back_set h]
  unfold back
  rw [show P.length - c = (P.length - (c + 1)) + 1 by omega, List.replicate_succ]
theorem drop_all {P : List Int} {c : Nat} {x : Int} (h : ∀ k, c ≤ k → k < P.length → P.getD k 0 = x) : ∀ y ∈ P.drop c, y = x := by
  intro y hy
  obtain ⟨i, hi, rfl⟩ := List.mem_iff_getElem.1 hy
  rw [List.length_drop] at hi
  have := h (c + i) (by omega) (by omega)
  rw [List.getElem_drop]
  rwa [List.getD_eq_getElem?_getD, List.getElem?_eq_getElem (by omega), Option.getD_some] at this
theorem nxt_end {m : Nat} {P : List Int} (h : ∀ k, 0 ≤ k → k < P.length → P.getD k 0 = (m : Int) - 1) : nxt m P = none := nxt_full (drop_all (c := 0) h)
theorem nxt_on {m : Nat} {P : List Int} {c : Nat} (h : ∀ k, c + 1 ≤ k → k < P.length → P.getD k 0 = (m : Int) - 1) (hc : c < P.length) (hd : P.getD c 0 ≠ (m : Int) - 1) : nxt m P = some ((back P (c + 1)).set c (P.getD c 0 + 1)) := by
  rw [back_set hc]
  have e : P = P.take c ++ P.getD c 0 :: P.drop (c + 1) := by
    conv => lhs; rw [← List.take_append_drop (c + 1) P, takeI_snoc hc, List.append_assoc]
    rfl
  have := nxt_mid (drop_all h) hd (P.take c)
  rw [← e, List.length_drop] at this
  exact this

def preL (A : List (List Int)) : Nat → List (List Int)
  | 0 => []
  | j + 1 => preL A j ++ A.map (((j : Int) - 1) :: ·)
/-- All lists of so many numbers from -1 on, in their order. -/
def allL (m : Nat) : Nat → List (List Int)
  | 0 => [[]]
  | n + 1 => preL (allL m n) (m + 1)
theorem preL_mem {A : List (List Int)} : ∀ {j : Nat} {p : List Int}, p ∈ preL A j ↔ ∃ (k : Nat) (t : List Int), k < j ∧ t ∈ A ∧ p = ((k : Int) - 1) :: t
  | 0, p => by simp [preL]
  | j + 1, p => by
    simp only [preL, List.mem_append, List.mem_map, preL_mem]
    constructor
    · rintro (⟨k, t, h1, h2, h3⟩ | ⟨t, h2, h3⟩)
      · exact ⟨k, t, by omega, h2, h3⟩
      · exact ⟨j, t, by omega, h2, h3.symm⟩
    · rintro ⟨k, t, h1, h2, h3⟩
      by_cases e : k = j
      · subst e; exact .inr ⟨t, h2, h3.symm⟩
      · exact .inl ⟨k, t, by omega, h2, h3⟩
theorem allL_mem {m : Nat} : ∀ {n : Nat} {p : List Int}, p ∈ allL m n ↔ p.length = n ∧ ∀ x ∈ p, -1 ≤ x ∧ x < m
  | 0, p => by
    simp only [allL, List.mem_singleton]
    constructor
    · rintro rfl; exact ⟨rfl, fun x hx => (by cases hx)⟩
    · rintro ⟨h, _⟩; exact List.eq_nil_of_length_eq_zero h
  | n + 1, p => by
    simp only [allL, preL_mem, allL_mem]
    constructor
    · rintro ⟨k, t, h1, ⟨h2, h3⟩, rfl⟩
      refine ⟨by simp [h2], fun x hx => ?_⟩
      rcases List.mem_cons.1 hx with rfl | hx
      · omega
      · exact h3 x hx
    · rintro ⟨h1, h2⟩
      cases p with
      | nil => cases h1
      | cons d t =>
        obtain ⟨d1, d2⟩ := h2 d List.mem_cons_self
        exact ⟨(d + 1).toNat, t, by omega, ⟨by simpa using h1, fun x hx => h2 x (List.mem_cons_of_mem _ hx)⟩, by congr 1; omega⟩
theorem allL_head (m : Nat) : ∀ n, (allL m n).head? = some (List.replicate n (-1))
  | 0 => rfl
  | n + 1 => by
    have h : ∀ j, (preL (allL m n) (j + 1)).head? = some (List.replicate (n + 1) (-1)) := by
      intro j
      induction j with
      | zero => simp [preL, allL_head m n, List.replicate_succ]
      | succ j ih => rw [preL, List.head?_append, ih]; rfl
    exact h m

/-- Each list is followed by the one behind it. -/
def Lk (m : Nat) : List (List Int) → Option (List Int) → Prop
  | [], _ => True
  | a :: r, e => nxt m a = r.head?.or e ∧ Lk m r e
theorem Lk_append {m : Nat} {B : List (List Int)} {e : Option (List Int)} (hB : Lk m B e) : ∀ {A : List (List Int)}, Lk m A (B.head?.or e) → Lk m (A ++ B) e
  | [], _ => hB
  | a :: A, h => by
    refine ⟨?_, Lk_append hB h.2⟩
    rw [h.1]
    cases A <;> rfl
theorem Lk_map {m n : Nat} {k : Int} : ∀ {l : List (List Int)}, Lk m l none → (∀ p ∈ l, p.length = n) → Lk m (l.map (k :: ·)) (if k = (m : Int) - 1 then none else some ((k + 1) :: List.replicate n (-1)))
  | [], _, _ => trivial
  | a :: r, h, hl => by
    refine ⟨?_, Lk_map h.2 fun p hp => hl p (List.mem_cons_of_mem _ hp)⟩
    have h1 := h.1
    have hl1 := hl a List.mem_cons_self
    cases r with
    | nil =>
      have h1 : nxt m a = none := h1
      show nxt m (k :: a) = _
      simp only [nxt, h1, hl1]
      rfl
    | cons b r =>
      have h1 : nxt m a = some b := h1
      show nxt m (k :: a) = _
      simp only [nxt, h1]
      rfl
theorem Lk_pre {m n : Nat} {A : List (List Int)} (h : Lk m A none) (hl : ∀ p ∈ A, p.length = n) (hh : A.head? = some (List.replicate n (-1))) : ∀ j : Nat, j ≤ m + 1 → Lk m (preL A j) (if j = m + 1 then none else some (((j : Int) - 1) :: List.replicate n (-1)))
  | 0, _ => trivial
  | j + 1, hj => by
    have h1 := Lk_pre h hl hh j (by omega)
    have h2 := Lk_map (k := (j : Int) - 1) h hl
    have e : (if (j : Int) - 1 = (m : Int) - 1 then none else some (((j : Int) - 1 + 1) :: List.replicate n (-1))) = (if j + 1 = m + 1 then none else some ((((j + 1 : Nat) : Int) - 1) :: List.replicate n (-1)) : Option (List Int)) := by
      by_cases e : j = m
      · rw [if_pos (by omega), if_pos (by omega)]
      · rw [if_neg (by omega), if_neg (by omega)]; congr 2; omega
    rw [e] at h2
    refine Lk_append h2 ?_
    rw [List.head?_map, hh]
    rw [if_neg (by omega)] at h1
    exact h1
theorem Lk_all (m : Nat) : ∀ n, Lk m (allL m n) none
  | 0 => ⟨rfl, trivial⟩
  | n + 1 => by
    have := Lk_pre (Lk_all m n) (fun p hp => (allL_mem.1 hp).1) (allL_head m n) (m + 1) (Nat.le_refl _)
    rwa [if_pos rfl] at this
theorem Lk_at {m : Nat} {e : Option (List Int)} : ∀ {l : List (List Int)}, Lk m l e → ∀ i, i < l.length → nxt m (l.getD i []) = (if i + 1 < l.length then some (l.getD (i + 1) []) else e)
  | [], _, i, hi => by cases hi
  | a :: r, h, 0, _ => by
    show nxt m a = _
    rw [h.1]
    cases r with
    | nil => rfl
    | cons b r => simp
  | a :: r, h, i + 1, hi => by
    have := Lk_at h.2 i (by simpa using hi)
    show nxt m (r.getD i []) = _
    rw [this]
    simp
theorem allL_at (m n i : Nat) (hi : i < (allL m n).length) : nxt m ((allL m n).getD i []) = (if i + 1 < (allL m n).length then some ((allL m n).getD (i + 1) []) else none) := Lk_at (Lk_all m n) i hi
theorem allL_first (m n : Nat) : 0 < (allL m n).length ∧ (allL m n).getD 0 [] = List.replicate n (-1) := by
  have h := allL_head m n
  cases e : allL m n with
  | nil => rw [e] at h; cases h
  | cons a r =>
    rw [e] at h
    cases h
    exact ⟨Nat.succ_pos _, rfl⟩
theorem allL_get {m n i : Nat} (hi : i < (allL m n).length) : ((allL m n).getD i []).length = n ∧ ∀ k, k < n → -1 ≤ ((allL m n).getD i []).getD k 0 ∧ ((allL m n).getD i []).getD k 0 < m := by
  have hm : (allL m n).getD i [] ∈ allL m n := by
    rw [List.getD_eq_getElem?_getD, List.getElem?_eq_getElem hi]; exact List.getElem_mem hi
  obtain ⟨h1, h2⟩ := allL_mem.1 hm
  refine ⟨h1, fun k hk => h2 _ ?_⟩
  generalize (allL m n).getD i [] = P at *
  rw [List.getD_eq_getElem?_getD, List.getElem?_eq_getElem (by omega)]
  exact List.getElem_mem _

/-! The best of some lists, the first one among equals. -/
def bet (a b : Int × Int) : Bool := bif decide (a.1 > b.1) then true else bif a.1 == b.1 then decide (a.2 < b.2) else false
theorem bet_iff {a b : Int × Int} : bet a b = true ↔ a.1 > b.1 ∨ a.1 = b.1 ∧ a.2 < b.2 := by
  unfold bet
  by_cases h : a.1 > b.1
  · simp [h]
  · by_cases h2 : a.1 = b.1
    · simp [h2]
    · simp [h, h2]
theorem bet_not {a b : Int × Int} : bet a b = false ↔ ¬ (a.1 > b.1 ∨ a.1 = b.1 ∧ a.2 < b.2) := by
  rw [← bet_iff]; simp
def comb (v : List Int → Int × Int) : Option (List Int) → Option (List Int) → Option (List Int)
  | none, y => y
  | some a, none => some a
  | some a, some b => if bet (v b) (v a) = true then some b else some a
theorem comb_none (v : List Int → Int × Int) (x : Option (List Int)) : comb v x none = x := by cases x <;> rfl
theorem comb_assoc (v : List Int → Int × Int) (x y z : Option (List Int)) : comb v (comb v x y) z = comb v x (comb v y z) := by
  cases x with
  | none => rfl
  | some a =>
    cases y with
    | none => rfl
    | some b =>
      cases z with
      | none => rw [comb_none, comb_none]
      | some c =>
        simp only [comb]
        by_cases h1 : bet (v b) (v a) = true
        · rw [if_pos h1]
          by_cases h2 : bet (v c) (v b) = true
          · have h3 : bet (v c) (v a) = true := by rw [bet_iff] at *; omega
            simp [comb, h1, h2, h3]
          · simp [comb, h1, h2]
        · rw [if_neg h1]
          by_cases h2 : bet (v c) (v b) = true
          · simp [comb, h2]
          · have h3 : ¬ bet (v c) (v a) = true := by rw [bet_iff] at *; omega
            simp [comb, h1, h2, h3]
def optF (f : List Int → Bool) (p : List Int) : Option (List Int) := if f p = true then some p else none
def bst (v : List Int → Int × Int) (f : List Int → Bool) : List (List Int) → Option (List Int)
  | [] => none
  | p :: r => comb v (optF f p) (bst v f r)
theorem bst_append (v : List Int → Int × Int) (f : List Int → Bool) (B : List (List Int)) : ∀ A, bst v f (A ++ B) = comb v (bst v f A) (bst v f B)
  | [] => rfl
  | a :: A => by
    show comb v _ (bst v f (A ++ B)) = _
    rw [bst_append v f B A, ← comb_assoc]
    rfl
theorem bst_one (v : List Int → Int × Int) (f : List Int → Bool) (p : List Int) : bst v f [p] = optF f p := comb_none v _
theorem bst_snoc (v : List Int → Int × Int) (f : List Int → Bool) (A : List (List Int)) (p : List Int) : bst v f (A ++ [p]) = comb v (bst v f A) (optF f p) := by rw [bst_append, bst_one]
/-- What the best one is. -/
theorem bst_is {v : List Int → Int × Int} {f : List Int → Bool} : ∀ {l : List (List Int)} {p : List Int}, bst v f l = some p → p ∈ l ∧ f p = true ∧ ∀ q ∈ l, f q = true → bet (v q) (v p) = false
  | [], p, h => by cases h
  | a :: r, p, h => by
    have h : comb v (optF f a) (bst v f r) = some p := h
    unfold optF at h
    by_cases ha : f a = true
    · rw [if_pos ha] at h
      cases hr : bst v f r with
      | none =>
        rw [hr] at h
        cases h
        refine ⟨List.mem_cons_self, ha, fun q hq hf => ?_⟩
        rcases List.mem_cons.1 hq with rfl | hq
        · rw [bet_not]; omega
        · exact absurd hr (bst_some hq hf)
      | some b =>
        rw [hr] at h
        obtain ⟨i1, i2, i3⟩ := bst_is hr
        simp only [comb] at h
        by_cases hb : bet (v b) (v a) = true
        · rw [if_pos hb] at h
          cases h
          refine ⟨List.mem_cons_of_mem _ i1, i2, fun q hq hf => ?_⟩
          rcases List.mem_cons.1 hq with rfl | hq
          · rw [bet_not]; rw [bet_iff] at hb; omega
          · exact i3 q hq hf
        · rw [if_neg hb] at h
          cases h
          refine ⟨List.mem_cons_self, ha, fun q hq hf => ?_⟩
          rcases List.mem_cons.1 hq with rfl | hq
          · rw [bet_not]; omega
          · have := i3 q hq hf
            rw [bet_not] at this ⊢
            rw [bet_iff] at hb
            omega
    · rw [if_neg ha] at h
      obtain ⟨i1, i2, i3⟩ := bst_is (l := r) h
      refine ⟨List.mem_cons_of_mem _ i1, i2, fun q hq hf => ?_⟩
      rcases List.mem_cons.1 hq with rfl | hq
      · exact absurd hf ha
      · exact i3 q hq hf
where
  bst_some {v : List Int → Int × Int} {f : List Int → Bool} : ∀ {l : List (List Int)} {q : List Int}, q ∈ l → f q = true → bst v f l ≠ none
  | [], q, h, _ => by cases h
  | a :: r, q, h, hf => by
    show comb v (optF f a) (bst v f r) ≠ none
    unfold optF
    by_cases ha : f a = true
    · rw [if_pos ha]
      cases hr : bst v f r with
      | none => intro e; cases e
      | some b =>
        simp only [comb]
        split <;> (intro e; cases e)
    · rw [if_neg ha]
      rcases List.mem_cons.1 h with rfl | h
      · exact absurd hf ha
      · exact bst_some h hf
theorem bst_some {v : List Int → Int × Int} {f : List Int → Bool} {l : List (List Int)} {q : List Int} (h : q ∈ l) (hf : f q = true) : ∃ p, bst v f l = some p := by
  cases e : bst v f l with
  | none => exact absurd e (bst_is.bst_some h hf)
  | some p => exact ⟨p, rfl⟩
theorem bst_none {v : List Int → Int × Int} {f : List Int → Bool} : ∀ {l : List (List Int)}, (∀ q ∈ l, f q = false) → bst v f l = none
  | [], _ => rfl
  | a :: r, h => by
    show comb v (optF f a) (bst v f r) = none
    rw [bst_none fun q hq => h q (List.mem_cons_of_mem _ hq)]
    unfold optF
    rw [h a List.mem_cons_self]
    rfl

/-! The beginnings of plans. -/
theorem useL_pre (f : Sec → Int) (S : List Sec) (b t : List Int) (k : Int) : ∀ n, n ≤ b.length → useL f S (b ++ t) k n = useL f S b k n
  | 0, _ => rfl
  | n + 1, h => by
    simp only [useL, useL_pre f S b t k n (by omega)]
    rw [List.getD_eq_getElem?_getD, List.getElem?_append_left (by omega), ← List.getD_eq_getElem?_getD]
theorem useL_grow {f : Sec → Int} {S : List Sec} (hf : ∀ n, 0 ≤ f (S.getD n secD)) (P : List Int) (k : Int) (n : Nat) : ∀ d, useL f S P k n ≤ useL f S P k (n + d)
  | 0 => Int.le_refl _
  | d + 1 => by
    have := useL_grow hf P k n d
    have h2 := hf (n + d)
    show _ ≤ useL f S P k (n + d) + (if P.getD (n + d) 0 = k then f (S.getD (n + d) secD) else 0)
    split <;> omega
theorem useL_rep {f : Sec → Int} {S : List Sec} (b : List Int) {k : Int} (hk : k ≠ -1) (e : Nat) : ∀ d, d ≤ e → useL f S (b ++ List.replicate e (-1)) k (b.length + d) = useL f S b k b.length
  | 0, _ => useL_pre f S b _ k _ (Nat.le_refl _)
  | d + 1, h => by
    show useL f S _ k (b.length + d) + (if (b ++ List.replicate e (-1)).getD (b.length + d) 0 = k then f (S.getD (b.length + d) secD) else 0) = _
    rw [useL_rep b hk e d (by omega), List.getD_eq_getElem?_getD, List.getElem?_append_right (by omega), Nat.add_sub_cancel_left, List.getElem?_replicate_of_lt (by omega), Option.getD_some, if_neg (Ne.symm hk), Int.add_zero]
theorem fitE_zero {S : List Sec} {T : List Shf} {P : List Int} : fitE S T P = 0 ↔ (∀ i, i < P.length → lateAt S T P i = 0) ∧ ∀ k, k < T.length → shAt S T P P.length k = 0 := by
  unfold fitE
  rw [firstS_cons, firstS_cons]
  unfold lateP shP
  constructor
  · rintro ⟨h1, h2, _⟩
    exact ⟨firstR_zero h1, firstR_zero h2⟩
  · rintro ⟨h1, h2⟩
    refine ⟨?_, ?_, rfl⟩
    · exact firstR_of h1
    · exact firstR_of h2
where
  firstR_of {f : Nat → Int} : ∀ {n : Nat}, (∀ k, k < n → f k = 0) → firstS ((List.range n).map f) = 0
  | 0, _ => rfl
  | n + 1, h => by
    rw [List.range_succ_eq_map, List.map_cons, List.map_map, firstS_cons]
    exact ⟨h 0 (by omega), firstR_of (f := f ∘ Nat.succ) (n := n) fun k hk => h (k + 1) (by omega)⟩
theorem shAt_zero {S : List Sec} {T : List Shf} {P : List Int} {n k : Nat} : shAt S T P n k = 0 ↔ 0 ≤ leftH S T P k n ∧ 0 ≤ leftT S T P k n := by
  unfold shAt
  rw [first_two]
  unfold whenS
  by_cases h1 : leftH S T P k n < 0 <;> by_cases h2 : leftT S T P k n < 0 <;> simp [h1, h2] <;> omega
def fitB (S : List Sec) (T : List Shf) (P : List Int) : Bool := fitE S T P == 0
def valP (S : List Sec) (T : List Shf) (P : List Int) : Int × Int := (valV S P P.length, valC S T P P.length)
theorem fitB_pre {S : List Sec} {T : List Shf} (h : OffB S T) {b t : List Int} (hf : fitB S T (b ++ t) = true) : fitB S T b = true := by
  unfold fitB at *
  simp only [beq_iff_eq, fitE_zero] at *
  obtain ⟨h1, h2⟩ := hf
  refine ⟨fun i hi => ?_, fun k hk => ?_⟩
  · have := h1 i (by simp; omega)
    unfold lateAt at *
    rwa [List.getD_eq_getElem?_getD, List.getElem?_append_left hi, ← List.getD_eq_getElem?_getD] at this
  · have := h2 k hk
    rw [shAt_zero] at *
    unfold leftH leftT at *
    rw [List.length_append] at this
    have a1 := useL_grow (f := (·.wk)) (S := S) (fun n => (h.wk n).1) (b ++ t) k b.length t.length
    have a2 := useL_grow (f := (·.bl)) (S := S) (fun n => (h.sbl n).1) (b ++ t) k b.length t.length
    rw [useL_pre _ S b t k b.length (Nat.le_refl _)] at a1 a2
    omega
theorem fitB_rep {S : List Sec} {T : List Shf} {b : List Int} (hf : fitB S T b = true) (d : Nat) : fitB S T (b ++ List.replicate d (-1)) = true := by
  unfold fitB at *
  simp only [beq_iff_eq, fitE_zero] at *
  obtain ⟨h1, h2⟩ := hf
  refine ⟨fun i hi => ?_, fun k hk => ?_⟩
  · by_cases hib : i < b.length
    · have := h1 i hib
      unfold lateAt at *
      rwa [List.getD_eq_getElem?_getD, List.getElem?_append_left hib, ← List.getD_eq_getElem?_getD]
    · unfold lateAt
      simp only [List.length_append, List.length_replicate] at hi
      rw [List.getD_eq_getElem?_getD, List.getElem?_append_right (by omega), List.getElem?_replicate_of_lt (by omega), Option.getD_some, if_neg (by omega)]
  · have := h2 k hk
    rw [shAt_zero] at *
    unfold leftH leftT at *
    rw [List.length_append, List.length_replicate, useL_rep b (by omega) d d (Nat.le_refl _), useL_rep b (by omega) d d (Nat.le_refl _)]
    exact this
theorem fitB_nil {S : List Sec} {T : List Shf} (h : OffB S T) : fitB S T [] = true := by
  unfold fitB
  simp only [beq_iff_eq, fitE_zero]
  refine ⟨fun i hi => (by cases hi), fun k hk => ?_⟩
  rw [shAt_zero]
  have h1 := h.hr k
  have h2 := h.tbl k
  unfold leftH leftT
  show 0 ≤ _ - (0 : Int) ∧ 0 ≤ _ - (0 : Int)
  omega

/-- The best plan of those that begin so. -/
def begP (S : List Sec) (T : List Shf) (b : List Int) (d : Nat) : Option (List Int) := bst (valP S T) (fitB S T) ((allL T.length d).map (b ++ ·))
def begJ (S : List Sec) (T : List Shf) (b : List Int) (d j : Nat) : Option (List Int) := bst (valP S T) (fitB S T) ((preL (allL T.length d) j).map (b ++ ·))
theorem begP_zero {S : List Sec} {T : List Shf} {b : List Int} (hf : fitB S T b = true) : begP S T b 0 = some b := by
  show bst _ _ [b ++ []] = _
  rw [List.append_nil, bst_one]
  unfold optF
  rw [if_pos hf]
theorem begP_all (S : List Sec) (T : List Shf) (b : List Int) (d : Nat) : begP S T b (d + 1) = begJ S T b d (T.length + 1) := rfl
theorem begJ_step (S : List Sec) (T : List Shf) (b : List Int) (d j : Nat) : begJ S T b d (j + 1) = comb (valP S T) (begJ S T b d j) (begP S T (b ++ [(j : Int) - 1]) d) := by
  unfold begJ begP
  rw [preL, List.map_append, bst_append, List.map_map]
  congr 3
  funext t
  simp
theorem begP_not {S : List Sec} {T : List Shf} (h : OffB S T) {b : List Int} {d : Nat} (hf : fitB S T b = false) : begP S T b d = none := by
  refine bst_none fun q hq => ?_
  obtain ⟨t, _, rfl⟩ := List.mem_map.1 hq
  cases e : fitB S T (b ++ t) with
  | false => rfl
  | true => rw [fitB_pre h e] at hf; cases hf
theorem begP_is {S : List Sec} {T : List Shf} {b : List Int} {d : Nat} (hf : fitB S T b = true) : ∃ p, begP S T b d = some p ∧ p.length = b.length + d ∧ (∀ x ∈ p, x ∈ b ∨ -1 ≤ x ∧ x < T.length) := by
  have hm : b ++ List.replicate d (-1) ∈ (allL T.length d).map (b ++ ·) := by
    refine List.mem_map.2 ⟨_, List.mem_of_mem_head? (by rw [allL_head]; rfl), rfl⟩
  obtain ⟨p, hp⟩ := bst_some (v := valP S T) (f := fitB S T) hm (fitB_rep hf d)
  obtain ⟨h1, h2, _⟩ := bst_is hp
  obtain ⟨t, ht, rfl⟩ := List.mem_map.1 h1
  obtain ⟨t1, t2⟩ := allL_mem.1 ht
  refine ⟨_, hp, by simp [t1], fun x hx => ?_⟩
  rcases List.mem_append.1 hx with hx | hx
  · exact .inl hx
  · exact .inr (t2 x hx)
/-- The best plan of all. -/
def bestP (S : List Sec) (T : List Shf) : List Int := (begP S T [] S.length).getD []
theorem begP_nil (S : List Sec) (T : List Shf) (d : Nat) : begP S T [] d = bst (valP S T) (fitB S T) (allL T.length d) := by
  unfold begP
  congr 1
  conv => rhs; rw [← List.map_id (allL T.length d)]
  rfl

end Go.Proofs.YtccddhoeampdjaaGreatDoor
