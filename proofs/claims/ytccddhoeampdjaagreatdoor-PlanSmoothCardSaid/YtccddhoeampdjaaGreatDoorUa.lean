/- Chapter 9: the best lifts, in plain Lean: the table of least costs and the search by beginnings. -/
import Derived.Test.YtccddhoeampdjaaGreatDoorOf
set_option linter.unusedVariables false
set_option linter.unusedSimpArgs false
namespace Go.Proofs.YtccddhoeampdjaaGreatDoor
open Go.RowKit Go.Sym

def neverI : Int := 1099511627776
def missI (l t x : Int) : Int := (t - l - x) * (t - l - x) + x
theorem missI_nn (l t : Int) {x : Int} (h : 0 ≤ x) : 0 ≤ missI l t x := by
  have : 0 ≤ (t - l - x) * (t - l - x) := by
    rcases Int.le_total 0 (t - l - x) with h1 | h1
    · exact Int.mul_nonneg h1 h1
    · have := Int.mul_nonneg (show 0 ≤ -(t - l - x) by omega) (show 0 ≤ -(t - l - x) by omega)
      rwa [Int.neg_mul_neg] at this
  unfold missI; omega
def nearB (ramp n b : Int) : Bool := decide (n - b ≤ ramp) && decide (b - n ≤ ramp)
/-- Of two results the first one, but for a lesser cost. -/
def cmbD : Option (Int × List Int) → Option (Int × List Int) → Option (Int × List Int)
  | none, y => y
  | some a, none => some a
  | some a, some b => if b.1 < a.1 then some b else some a
def oneN (f : Int → Option (Int × List Int)) (g : Int → Int) (near : Int → Bool) (n : Int) : Option (Int × List Int) := if near n = true then (f n).map fun p => (g n + p.1, n :: p.2) else none
def bestN (f : Int → Option (Int × List Int)) (g : Int → Int) (near : Int → Bool) : Nat → Option (Int × List Int)
  | 0 => none
  | k + 1 => cmbD (bestN f g near k) (oneN f g near k)
/-- The best lifts of columns behind a lift, with their cost: the search's. -/
def bestD (most : Nat) (ramp : Int) : List (Int × Int) → Int → Option (Int × List Int)
  | [], b => if b ≤ ramp then some (0, []) else none
  | c :: r, b => bestN (bestD most ramp r) (missI c.1 c.2) (fun n => nearB ramp n b) (most + 1)
/-- The least of the first numbers that are near. -/
def leastN (f : Int → Int) (near : Int → Bool) : Nat → Int
  | 0 => neverI
  | k + 1 => if near k = true then (if f k < leastN f near k then f k else leastN f near k) else leastN f near k
/-- The table: the least cost from a column on, by its lift. -/
def restF (most : Nat) (ramp : Int) : List (Int × Int) → Int → Int
  | [], n => if n > 0 then neverI else 0
  | c :: r, n => if n > most then neverI else missI c.1 c.2 n + leastN (restF most ramp r) (fun m => nearB ramp m n) 13
def costO : Option (Int × List Int) → Int
  | none => neverI
  | some p => p.1
theorem leastN_le (f : Int → Int) (near : Int → Bool) : ∀ k, leastN f near k ≤ neverI
  | 0 => Int.le_refl _
  | k + 1 => by
    have := leastN_le f near k
    simp only [leastN]
    split
    · split <;> omega
    · exact this
theorem least_best {f : Int → Option (Int × List Int)} {g h : Int → Int} {near : Int → Bool} {M : Nat} (hn : ∀ k : Nat, k < M → near k = true → h k = g k + costO (f k)) (hg : ∀ k : Nat, k < M → 0 ≤ g k) (hb : ∀ k : Nat, k < M → near k = true → ∀ p, f k = some p → g k + p.1 < neverI) : ∀ k, k ≤ M → leastN h near k = costO (bestN f g near k)
  | 0, _ => rfl
  | k + 1, hk => by
    have ih := least_best hn hg hb k (by omega)
    have hle := leastN_le h near k
    simp only [leastN, bestN, oneN]
    by_cases hr : near k = true
    · rw [if_pos hr, if_pos hr, hn k (by omega) hr]
      have hg0 := hg k (by omega)
      have hb0 := hb k (by omega) hr
      cases e : f k with
      | none =>
        show (if g k + neverI < leastN h near k then g k + neverI else leastN h near k) = costO (cmbD (bestN f g near k) none)
        rw [if_neg (by omega), ih]
        cases bestN f g near k <;> rfl
      | some p =>
        have hb1 := hb0 p e
        show (if g k + p.1 < leastN h near k then g k + p.1 else leastN h near k) = costO (cmbD (bestN f g near k) (some (g k + p.1, (k : Int) :: p.2)))
        rw [ih]
        cases e2 : bestN f g near k with
        | none =>
          show (if g k + p.1 < neverI then g k + p.1 else neverI) = g k + p.1
          rw [if_pos hb1]
        | some q =>
          show (if g k + p.1 < q.1 then g k + p.1 else q.1) = costO (if g k + p.1 < q.1 then some (g k + p.1, (k : Int) :: p.2) else some q)
          split <;> rfl
    · rw [if_neg hr, if_neg hr, ih]
      cases bestN f g near k <;> rfl
theorem least_more {h : Int → Int} {near : Int → Bool} {M : Nat} (hh : ∀ k : Nat, M ≤ k → near k = true → neverI ≤ h k) : ∀ d, leastN h near (M + d) = leastN h near M
  | 0 => rfl
  | d + 1 => by
    have ih := least_more hh d
    have hle := leastN_le h near (M + d)
    show (if near ((M + d : Nat) : Int) = true then (if h ((M + d : Nat) : Int) < leastN h near (M + d) then h ((M + d : Nat) : Int) else leastN h near (M + d)) else leastN h near (M + d)) = _
    by_cases hr : near ((M + d : Nat) : Int) = true
    · have := hh (M + d) (by omega) hr
      rw [if_pos hr, if_neg (by omega), ih]
    · rw [if_neg hr, ih]
theorem bestN_is {f : Int → Option (Int × List Int)} {g : Int → Int} {near : Int → Bool} : ∀ {k : Nat} {p : Int × List Int}, bestN f g near k = some p → ∃ (n : Nat) (q : Int × List Int), n < k ∧ near n = true ∧ f n = some q ∧ p = (g n + q.1, (n : Int) :: q.2) ∧ ∀ m : Nat, m < n → near m = true → ∀ q', f m = some q' → p.1 < g m + q'.1
  | 0, p, h => by cases h
  | k + 1, p, h => by
    have h : cmbD (bestN f g near k) (oneN f g near k) = some p := h
    have all : ∀ {k : Nat} {m : Nat}, m < k → near m = true → ∀ q', f m = some q' → costO (bestN f g near k) ≤ g m + q'.1 := by
      intro k
      induction k with
      | zero => intro m hm; omega
      | succ k ih =>
        intro m hm hr q' hq
        show costO (cmbD (bestN f g near k) (oneN f g near k)) ≤ _
        by_cases e : m = k
        · subst e
          unfold oneN
          rw [if_pos hr, hq]
          cases bestN f g near m with
          | none => exact Int.le_refl _
          | some a =>
            simp only [Option.map_some, cmbD]
            split
            · exact Int.le_refl _
            · simp only [costO]; omega
        · have := ih (by omega) hr q' hq
          cases e1 : bestN f g near k with
          | none =>
            exfalso
            have none_all : ∀ {k : Nat}, bestN f g near k = none → ∀ m : Nat, m < k → near m = true → f m = none := by
              intro k
              induction k with
              | zero => intro _ m hm; omega
              | succ k ih2 =>
                intro hn m hm hr
                have hn : cmbD (bestN f g near k) (oneN f g near k) = none := hn
                cases e3 : bestN f g near k with
                | none =>
                  rw [e3] at hn
                  by_cases e4 : m = k
                  · subst e4
                    have hn : oneN f g near m = none := hn
                    unfold oneN at hn
                    rw [if_pos hr] at hn
                    cases e5 : f m with
                    | none => rfl
                    | some x => rw [e5] at hn; cases hn
                  · exact ih2 e3 m (by omega) hr
                | some a =>
                  rw [e3] at hn
                  cases e6 : oneN f g near k with
                  | none => rw [e6] at hn; cases hn
                  | some b2 => rw [e6] at hn; simp only [cmbD] at hn; split at hn <;> cases hn
            rw [none_all e1 m (by omega) hr] at hq
            cases hq
          | some a =>
            rw [e1] at this
            cases e2 : oneN f g near k with
            | none => exact this
            | some b2 =>
              have this : a.1 ≤ g m + q'.1 := this
              simp only [cmbD]
              split
              · simp only [costO]; omega
              · exact this
    cases e1 : bestN f g near k with
    | none =>
      rw [e1] at h
      have h : oneN f g near k = some p := h
      unfold oneN at h
      split at h
      · rename_i hr
        cases e2 : f k with
        | none => rw [e2] at h; cases h
        | some q =>
          rw [e2] at h
          cases h
          refine ⟨k, q, by omega, hr, e2, rfl, fun m hm hr' q' hq => ?_⟩
          exfalso
          have := all (k := k) hm hr' q' hq
          have nn : ∀ {k : Nat}, bestN f g near k = none → ∀ m : Nat, m < k → near m = true → f m = none := by
            intro k
            induction k with
            | zero => intro _ m hm; omega
            | succ k ih2 =>
              intro hn m hm hr
              have hn : cmbD (bestN f g near k) (oneN f g near k) = none := hn
              cases e3 : bestN f g near k with
              | none =>
                rw [e3] at hn
                by_cases e4 : m = k
                · subst e4
                  have hn : oneN f g near m = none := hn
                  unfold oneN at hn
                  rw [if_pos hr] at hn
                  cases e5 : f m with
                  | none => rfl
                  | some x => rw [e5] at hn; cases hn
                · exact ih2 e3 m (by omega) hr
              | some a =>
                rw [e3] at hn
                cases e6 : oneN f g near k with
                | none => rw [e6] at hn; cases hn
                | some b2 => rw [e6] at hn; simp only [cmbD] at hn; split at hn <;> cases hn
          rw [nn e1 m hm hr'] at hq
          cases hq
      · cases h
    | some a =>
      rw [e1] at h
      obtain ⟨n, q, i1, i2, i3, i4, i5⟩ := bestN_is e1
      cases e2 : oneN f g near k with
      | none =>
        rw [e2] at h
        cases h
        exact ⟨n, q, by omega, i2, i3, i4, i5⟩
      | some b2 =>
        rw [e2] at h
        simp only [cmbD] at h
        split at h
        · rename_i hlt
          cases h
          unfold oneN at e2
          split at e2
          · rename_i hr
            cases e3 : f k with
            | none => rw [e3] at e2; cases e2
            | some q2 =>
              rw [e3] at e2
              cases e2
              refine ⟨k, q2, by omega, hr, e3, rfl, fun m hm hr' q' hq => ?_⟩
              have h1 := all (k := k) hm hr' q' hq
              rw [e1] at h1
              have h1 : a.1 ≤ g m + q'.1 := h1
              omega
          · cases e2
        · cases h
          exact ⟨n, q, by omega, i2, i3, i4, i5⟩

theorem bestN_none {f : Int → Option (Int × List Int)} {g : Int → Int} {near : Int → Bool} : ∀ {k : Nat}, bestN f g near k = none → ∀ m : Nat, m < k → near m = true → f m = none
  | 0, _, m, hm, _ => by omega
  | k + 1, hn, m, hm, hr => by
    have hn : cmbD (bestN f g near k) (oneN f g near k) = none := hn
    cases e3 : bestN f g near k with
    | none =>
      rw [e3] at hn
      by_cases e4 : m = k
      · subst e4
        have hn : oneN f g near m = none := hn
        unfold oneN at hn
        rw [if_pos hr] at hn
        cases e5 : f m with
        | none => rfl
        | some x => rw [e5] at hn; cases hn
      · exact bestN_none e3 m (by omega) hr
    | some a =>
      rw [e3] at hn
      cases e6 : oneN f g near k with
      | none => rw [e6] at hn; cases hn
      | some b2 => rw [e6] at hn; simp only [cmbD] at hn; split at hn <;> cases hn
/-- There are lifts: none at all. -/
theorem bestD_some {most : Nat} {ramp : Int} (hr : 0 ≤ ramp) : ∀ cs : List (Int × Int), ∃ p, bestD most ramp cs 0 = some p
  | [] => ⟨_, if_pos hr⟩
  | c :: r => by
    obtain ⟨q, hq⟩ := bestD_some (most := most) hr r
    cases e : bestD most ramp (c :: r) 0 with
    | some p => exact ⟨p, rfl⟩
    | none =>
      have := bestN_none (k := most + 1) (show bestN (bestD most ramp r) (missI c.1 c.2) (fun n => nearB ramp n 0) (most + 1) = none from e) 0 (by omega) (by unfold nearB; simp; omega)
      have this : bestD most ramp r 0 = none := this
      rw [hq] at this; cases this
/-- What lifts of a column cost, all columns alike. -/
def colOk (most : Nat) (K : Int) (cs : List (Int × Int)) : Prop := ∀ c ∈ cs, ∀ x : Nat, x ≤ most → missI c.1 c.2 x ≤ K
theorem table_best {most : Nat} {ramp K : Int} (hm : most ≤ 12) (hr : 0 ≤ ramp) (hK : 0 ≤ K) : ∀ {cs : List (Int × Int)}, colOk most K cs → cs.length * K < neverI → ∀ {b : Int}, 0 ≤ b →
    leastN (restF most ramp cs) (fun n => nearB ramp n b) 13 = costO (bestD most ramp cs b) ∧ ∀ p, bestD most ramp cs b = some p → p.1 ≤ cs.length * K
  | [], _, _, b, hb => by
    have h1 := least_more (h := restF most ramp []) (near := fun n => nearB ramp n b) (M := 1) (fun k hk _ => by
      show neverI ≤ if (k : Int) > 0 then neverI else 0
      rw [if_pos (by omega)]; exact Int.le_refl _) 12
    have h2 : leastN (restF most ramp []) (fun n => nearB ramp n b) 1 = if nearB ramp 0 b = true then 0 else neverI := by
      show (if nearB ramp ((0 : Nat) : Int) b = true then (if restF most ramp [] ((0 : Nat) : Int) < neverI then restF most ramp [] ((0 : Nat) : Int) else neverI) else neverI) = _
      rfl
    rw [show (13 : Nat) = 1 + 12 from rfl, h1, h2]
    have h3 : nearB ramp 0 b = true ↔ b ≤ ramp := by unfold nearB; simp; omega
    unfold bestD
    by_cases h : b ≤ ramp
    · rw [if_pos (h3.2 h), if_pos h]
      exact ⟨rfl, fun p hp => by cases hp; simp⟩
    · rw [if_neg (fun c => h (h3.1 c)), if_neg h]
      exact ⟨rfl, fun p hp => by cases hp⟩
  | c :: r, hc, hl, b, hb => by
    have hlen : ((c :: r).length : Int) * K = r.length * K + K := by
      simp only [List.length_cons, Int.natCast_add, Int.add_mul]; simp
    rw [hlen] at hl ⊢
    have ih := fun k : Nat => table_best hm hr hK (cs := r) (fun c' h' => hc c' (List.mem_cons_of_mem _ h')) (by omega) (b := (k : Int)) (by omega)
    have h1 := least_more (h := restF most ramp (c :: r)) (near := fun n => nearB ramp n b) (M := most + 1) (fun k hk _ => by
      show neverI ≤ if (k : Int) > most then neverI else _
      rw [if_pos (by omega)]; exact Int.le_refl _) (12 - most)
    rw [show most + 1 + (12 - most) = 13 by omega] at h1
    have h2 := least_best (f := bestD most ramp r) (g := missI c.1 c.2) (h := restF most ramp (c :: r)) (near := fun n => nearB ramp n b) (M := most + 1) (fun k hk _ => by
      show (if (k : Int) > most then neverI else missI c.1 c.2 k + leastN (restF most ramp r) (fun m => nearB ramp m k) 13) = _
      rw [if_neg (by omega), (ih k).1]) (fun k _ => missI_nn _ _ (by omega)) (fun k hk _ p hp => by
        have h3 := (ih k).2 p hp
        have h4 := hc c List.mem_cons_self k (by omega)
        omega) (most + 1) (Nat.le_refl _)
    refine ⟨h1.trans h2, fun p hp => ?_⟩
    obtain ⟨n, q, n1, _, n3, rfl, _⟩ := bestN_is (show bestN (bestD most ramp r) (missI c.1 c.2) (fun n => nearB ramp n b) (most + 1) = some p from hp)
    have h3 := (ih n).2 q n3
    have h4 := hc c List.mem_cons_self n (by omega)
    show missI c.1 c.2 n + q.1 ≤ _
    omega
/-- The lift that the table gives is the one that the search takes. -/
theorem pick_is {most : Nat} {ramp K : Int} (hm : most ≤ 12) (hr : 0 ≤ ramp) (hK : 0 ≤ K) {c : Int × Int} {r : List (Int × Int)} (hc : colOk most K (c :: r)) (hl : ((c :: r).length : Int) * K < neverI) {b : Int} {p : Int × List Int} (hp : bestD most ramp (c :: r) b = some p) :
    ∃ (n : Nat) (q : Int × List Int), n ≤ most ∧ nearB ramp n b = true ∧ bestD most ramp r n = some q ∧ p = (missI c.1 c.2 n + q.1, (n : Int) :: q.2) ∧ restF most ramp (c :: r) n = p.1 ∧ ∀ m : Nat, m < n → nearB ramp m b = true → restF most ramp (c :: r) m ≠ p.1 := by
  have hlen : ((c :: r).length : Int) * K = r.length * K + K := by
    simp only [List.length_cons, Int.natCast_add, Int.add_mul]; simp
  rw [hlen] at hl
  have ht := fun k : Nat => table_best hm hr hK (cs := r) (fun c' h' => hc c' (List.mem_cons_of_mem _ h')) (by omega) (b := (k : Int)) (by omega)
  obtain ⟨n, q, n1, n2, n3, n4, n5⟩ := bestN_is (show bestN (bestD most ramp r) (missI c.1 c.2) (fun n => nearB ramp n b) (most + 1) = some p from hp)
  have hrest : ∀ k : Nat, k ≤ most → restF most ramp (c :: r) k = missI c.1 c.2 k + costO (bestD most ramp r k) := fun k hk => by
    show (if (k : Int) > most then neverI else missI c.1 c.2 k + leastN (restF most ramp r) (fun m => nearB ramp m k) 13) = _
    rw [if_neg (by omega), (ht k).1]
  refine ⟨n, q, by omega, n2, n3, n4, ?_, fun m hmn hmr => ?_⟩
  · rw [hrest n (by omega), n3, n4]; rfl
  · rw [hrest m (by omega)]
    cases e : bestD most ramp r m with
    | none =>
      have h1 := (ht n).2 q n3
      have h2 := hc c List.mem_cons_self n (by omega)
      have h3 := missI_nn c.1 c.2 (x := (m : Int)) (by omega)
      have h4 : p.1 = missI c.1 c.2 n + q.1 := by rw [n4]
      show missI c.1 c.2 m + neverI ≠ p.1
      omega
    | some q' =>
      have := n5 m hmn hmr q' e
      show missI c.1 c.2 m + q'.1 ≠ p.1
      omega

end Go.Proofs.YtccddhoeampdjaaGreatDoor
