/- Chapter 9: the best lifts keep the rules, and no lifts cost less. -/
import Derived.Test.YtccddhoeampdjaaGreatDoorUa
set_option linter.unusedVariables false
set_option linter.unusedSimpArgs false
namespace Go.Proofs.YtccddhoeampdjaaGreatDoor
open Go.RowKit Go.Sym

theorem bestN_low {f : Int → Option (Int × List Int)} {g : Int → Int} {near : Int → Bool} {m : Nat} {q : Int × List Int} (hr : near m = true) (hq : f m = some q) : ∀ {k : Nat}, m < k → ∃ p, bestN f g near k = some p ∧ p.1 ≤ g m + q.1
  | 0, h => by omega
  | k + 1, h => by
    show ∃ p, cmbD (bestN f g near k) (oneN f g near k) = some p ∧ _
    by_cases e : m = k
    · subst e
      have e1 : oneN f g near m = some (g m + q.1, (m : Int) :: q.2) := by unfold oneN; rw [if_pos hr, hq]; rfl
      rw [e1]
      cases bestN f g near m with
      | none => exact ⟨_, rfl, Int.le_refl _⟩
      | some a =>
        simp only [cmbD]
        split
        · exact ⟨_, rfl, Int.le_refl _⟩
        · refine ⟨_, rfl, ?_⟩; omega
    · obtain ⟨a, h1, h2⟩ := bestN_low hr hq (k := k) (by omega)
      rw [h1]
      cases oneN f g near k with
      | none => exact ⟨a, rfl, h2⟩
      | some b =>
        simp only [cmbD]
        split
        · refine ⟨_, rfl, ?_⟩; omega
        · exact ⟨_, rfl, h2⟩
/-- Lifts that keep the rules, behind a lift. -/
def feasD (most : Nat) (ramp : Int) : List (Int × Int) → Int → List Int → Prop
  | [], b, [] => b ≤ ramp
  | _ :: r, b, x :: L => (0 ≤ x ∧ x ≤ most) ∧ nearB ramp x b = true ∧ feasD most ramp r x L
  | _, _, _ => False
def costL : List (Int × Int) → List Int → Int
  | c :: r, x :: L => missI c.1 c.2 x + costL r L
  | _, _ => 0
theorem bestD_feas {most : Nat} {ramp : Int} : ∀ {cs : List (Int × Int)} {b : Int} {p : Int × List Int}, bestD most ramp cs b = some p → feasD most ramp cs b p.2 ∧ costL cs p.2 = p.1
  | [], b, p, h => by
    unfold bestD at h
    split at h
    · rename_i hb
      cases h
      exact ⟨hb, rfl⟩
    · cases h
  | c :: r, b, p, h => by
    obtain ⟨n, q, n1, n2, n3, rfl, _⟩ := bestN_is (show bestN (bestD most ramp r) (missI c.1 c.2) (fun n => nearB ramp n b) (most + 1) = some p from h)
    obtain ⟨h1, h2⟩ := bestD_feas n3
    exact ⟨⟨⟨by omega, by omega⟩, n2, h1⟩, by show missI c.1 c.2 n + costL r q.2 = _; rw [h2]⟩
theorem bestD_low {most : Nat} {ramp : Int} : ∀ {cs : List (Int × Int)} {b : Int} {L : List Int}, feasD most ramp cs b L → ∃ p, bestD most ramp cs b = some p ∧ p.1 ≤ costL cs L
  | [], b, [], h => ⟨_, if_pos h, Int.le_refl _⟩
  | [], b, x :: L, h => h.elim
  | c :: r, b, [], h => h.elim
  | c :: r, b, x :: L, ⟨hx, hn, hf⟩ => by
    obtain ⟨q, h1, h2⟩ := bestD_low hf
    have hxe : ((x.toNat : Nat) : Int) = x := Int.toNat_of_nonneg hx.1
    obtain ⟨p, h3, h4⟩ := bestN_low (f := bestD most ramp r) (g := missI c.1 c.2) (near := fun n => nearB ramp n b) (m := x.toNat) (q := q) (by show nearB ramp ((x.toNat : Nat) : Int) b = true; rw [hxe]; exact hn) (by rw [hxe]; exact h1) (k := most + 1) (by omega)
    rw [hxe] at h4
    refine ⟨p, h3, ?_⟩
    show p.1 ≤ missI c.1 c.2 x + costL r L
    omega
/-- Steeper ramps and greater lifts allow no less. -/
theorem feasD_more {most most' : Nat} {ramp ramp' : Int} (hm : most ≤ most') (hr : ramp ≤ ramp') : ∀ {cs : List (Int × Int)} {b : Int} {L : List Int}, feasD most ramp cs b L → feasD most' ramp' cs b L
  | [], b, [], h => Int.le_trans h hr
  | [], b, x :: L, h => h.elim
  | c :: r, b, [], h => h.elim
  | c :: r, b, x :: L, ⟨hx, hn, hf⟩ => by
    refine ⟨⟨hx.1, by omega⟩, ?_, feasD_more hm hr hf⟩
    unfold nearB at *
    simp only [Bool.and_eq_true, decide_eq_true_eq] at *
    omega
theorem bestD_more {most most' : Nat} {ramp ramp' : Int} (hm : most ≤ most') (hr : ramp ≤ ramp') {cs : List (Int × Int)} {b : Int} {p : Int × List Int} (h : bestD most ramp cs b = some p) : ∃ p', bestD most' ramp' cs b = some p' ∧ p'.1 ≤ p.1 := by
  obtain ⟨h1, h2⟩ := bestD_feas h
  obtain ⟨p', h3, h4⟩ := bestD_low (feasD_more hm hr h1)
  exact ⟨p', h3, by omega⟩

theorem costL_nn {most : Nat} {ramp : Int} : ∀ {cs : List (Int × Int)} {b : Int} {L : List Int}, feasD most ramp cs b L → 0 ≤ costL cs L
  | [], _, [], _ => Int.le_refl _
  | [], _, x :: L, h => h.elim
  | c :: r, _, [], h => h.elim
  | c :: r, b, x :: L, ⟨hx, _, hf⟩ => by
    have h1 := costL_nn hf
    have h2 := missI_nn c.1 c.2 hx.1
    show 0 ≤ missI c.1 c.2 x + costL r L
    omega
/-- Lifts that cost nothing are none. -/
theorem costL_zero {most : Nat} {ramp : Int} : ∀ {cs : List (Int × Int)} {b : Int} {L : List Int}, feasD most ramp cs b L → costL cs L ≤ 0 → ∀ x ∈ L, x = 0
  | [], _, [], _, _, x, hx => by cases hx
  | [], _, y :: L, h, _, _, _ => h.elim
  | c :: r, _, [], h, _, _, _ => h.elim
  | c :: r, b, y :: L, ⟨hy, _, hf⟩, hc, x, hx => by
    have h1 := costL_nn hf
    have h2 := missI_nn c.1 c.2 hy.1
    have hc : missI c.1 c.2 y + costL r L ≤ 0 := hc
    have h3 : y ≤ missI c.1 c.2 y := by
      have : 0 ≤ (c.2 - c.1 - y) * (c.2 - c.1 - y) := by
        rcases Int.le_total 0 (c.2 - c.1 - y) with h | h
        · exact Int.mul_nonneg h h
        · have := Int.mul_nonneg (show 0 ≤ -(c.2 - c.1 - y) by omega) (show 0 ≤ -(c.2 - c.1 - y) by omega)
          rwa [Int.neg_mul_neg] at this
      unfold missI; omega
    rcases List.mem_cons.1 hx with rfl | hx
    · omega
    · exact costL_zero hf (by omega) x hx
theorem costL_level : ∀ l : List Int, costL (l.map fun x => (x, x)) (l.map fun _ => 0) = 0
  | [] => rfl
  | x :: l => by
    show missI x x 0 + costL _ _ = 0
    rw [costL_level l]
    unfold missI
    simp
theorem feasD_level (most : Nat) {ramp : Int} (hr : 0 ≤ ramp) : ∀ l : List Int, feasD most ramp (l.map fun x => (x, x)) 0 (l.map fun _ => 0)
  | [] => hr
  | x :: l => ⟨⟨Int.le_refl 0, show (0 : Int) ≤ most by omega⟩, by show nearB ramp 0 0 = true; unfold nearB; simp; omega, feasD_level most hr l⟩
/-- Targets that are the levels need no lifts. -/
theorem bestD_level (most : Nat) {ramp : Int} (hr : 0 ≤ ramp) (l : List Int) {p : Int × List Int} (h : bestD most ramp (l.map fun x => (x, x)) 0 = some p) : p.1 = 0 ∧ ∀ x ∈ p.2, x = 0 := by
  obtain ⟨h1, h2⟩ := bestD_feas h
  obtain ⟨p', h3, h4⟩ := bestD_low (feasD_level most hr l)
  rw [h] at h3
  cases h3
  rw [costL_level] at h4
  have h5 := costL_nn h1
  exact ⟨by omega, costL_zero h1 (by omega)⟩

end Go.Proofs.YtccddhoeampdjaaGreatDoor
