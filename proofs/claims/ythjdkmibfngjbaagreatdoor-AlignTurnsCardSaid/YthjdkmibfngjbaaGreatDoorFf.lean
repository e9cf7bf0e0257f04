/- Chapter 5: a turned ride is valid exactly if no place is below nought. -/
import Derived.Test.YthjdkmibfngjbaaGreatDoorFd
import Derived.Test.YthjdkmibfngjbaaGreatDoorDh
set_option linter.unusedVariables false
set_option linter.unusedSimpArgs false
namespace Go.Proofs.YthjdkmibfngjbaaGreatDoor
open Go.RowKit Go.Sym

theorem things_iff : ∀ {l : List Th} {last : Int}, thingsS l last = 0 ↔ (l.Pairwise fun x y => x.place < y.place) ∧ ∀ x ∈ l, nameOk x.kind = true ∧ (0 ≤ x.place ∧ x.place ≤ 100000000) ∧ last < x.place
  | [], _ => by simp [thingsS]
  | x :: l, last => by
    simp only [thingsS]
    by_cases hx : thS x last = 0
    · rw [if_pos hx, things_iff]
      have hx' := thS_zero.1 hx
      constructor
      · rintro ⟨h1, h2⟩
        refine ⟨List.pairwise_cons.2 ⟨fun y hy => (h2 y hy).2.2, h1⟩, fun y hy => ?_⟩
        rcases List.mem_cons.1 hy with rfl | hy
        · exact hx'
        · have := h2 y hy
          exact ⟨this.1, this.2.1, by omega⟩
      · rintro ⟨h1, h2⟩
        obtain ⟨h3, h4⟩ := List.pairwise_cons.1 h1
        exact ⟨h4, fun y hy => ⟨(h2 y (List.mem_cons_of_mem _ hy)).1, (h2 y (List.mem_cons_of_mem _ hy)).2.1, h3 y hy⟩⟩
    · rw [if_neg hx]
      constructor
      · exact fun h => absurd h hx
      · rintro ⟨_, h2⟩
        exact absurd (thS_zero.2 (h2 x List.mem_cons_self)) hx
theorem turn_check {p : Int} {l : List Th} (h : checkS l = 0) (hp : 0 ≤ p ∧ p ≤ 100000000) : checkS (turnL p l) = 0 ↔ ∀ x ∈ turnL p l, ¬ x.place < 0 := by
  unfold checkS at h ⊢
  rw [turnL_len]
  split at h
  · cases h
  · rename_i h64
    rw [if_neg h64, things_iff]
    obtain ⟨h1, h2⟩ := things_iff.1 h
    constructor
    · rintro ⟨_, h3⟩ x hx
      have := (h3 x hx).2.1
      omega
    · intro h3
      refine ⟨?_, fun x hx => ?_⟩
      · unfold turnL
        rw [List.pairwise_reverse, List.pairwise_map]
        refine h1.imp fun {a b} hab => ?_
        show p - b.place < p - a.place
        omega
      · have h4 := h3 x hx
        unfold turnL at hx
        rw [List.mem_reverse, List.mem_map] at hx
        obtain ⟨y, hy, rfl⟩ := hx
        have h5 := h2 y hy
        have h6 : ¬ p - y.place < 0 := h4
        refine ⟨h5.1, ⟨?_, ?_⟩, ?_⟩
        · show 0 ≤ p - y.place; omega
        · show p - y.place ≤ 100000000; omega
        · show -1 < p - y.place; omega
theorem ride_turn {m s : List Th} {p q : Int} (h : rideS m s = 0) (hp : 0 ≤ p ∧ p ≤ 100000000) (hq : 0 ≤ q ∧ q ≤ 100000000) : rideS (turnL p m) (turnL q s) = 0 ↔ negS m s p q = false := by
  obtain ⟨h1, h2⟩ := rideS_zero h
  have e : rideS (turnL p m) (turnL q s) = 0 ↔ checkS (turnL p m) = 0 ∧ checkS (turnL q s) = 0 := by
    unfold rideS
    rw [firstS_cons, firstS_cons]
    simp [firstS]
  rw [e, turn_check h1 hp, turn_check h2 hq]
  unfold negS
  rw [List.any_eq_false]
  constructor
  · rintro ⟨h3, h4⟩ x hx
    rcases List.mem_append.1 hx with hx | hx
    · simpa [ngB] using h3 x hx
    · simpa [ngB] using h4 x hx
  · intro h3
    refine ⟨fun x hx => ?_, fun x hx => ?_⟩
    · simpa [ngB] using h3 x (List.mem_append_left _ hx)
    · simpa [ngB] using h3 x (List.mem_append_right _ hx)
theorem turnL_at (p : Int) (l : List Th) (k : Nat) (h : k < l.length) : (turnL p l).getD k thD = turnT p (l.getD (l.length - 1 - k) thD) := by
  unfold turnL
  rw [reverse_at _ _ _ (by rw [List.length_map]; exact h), List.length_map, map_at (turnT p) thD thD l _ (by omega)]
theorem kinds_turn {p : Int} {l : List Th} (h : kindsOk l) : kindsOk (turnL p l) := by
  intro i
  by_cases hi : i < l.length
  · rw [turnL_at p l i hi]
    exact h _
  · rw [List.getD_eq_getElem?_getD, List.getElem?_eq_none (by rw [turnL_len]; omega)]
    show (0 : Nat) ≤ 1000000
    omega

end Go.Proofs.YthjdkmibfngjbaaGreatDoor
