/- Chapter 5: runs apart, the program's. -/
import Derived.Test.YtoopgdchiljmiaaGreatDoorHj
set_option linter.unusedVariables false
set_option linter.unusedSimpArgs false
namespace Go.Proofs.YtoopgdchiljmiaaGreatDoor
open Go.RowKit Go.Sym

theorem vr_of {t : Rn} (h : runE t = 0) (hl : t.holes.length ≤ 100000) : VR t ∧ t.first + (t.smp.length : Int) ≤ 100000000 := by
  have hp := partS_all h
  rw [runE_eq] at h
  split at h
  · rename_i hx; exact absurd h hx
  · rename_i h1
    split at h
    · rename_i hx; exact absurd h hx
    · rename_i h2
      have h1 : headR t = 0 := Classical.byContradiction h1
      have h2 : bodyR t = 0 := Classical.byContradiction h2
      unfold headR at h1
      unfold bodyR at h2
      rw [firstS_cons, firstS_cons, firstS_cons, withinS_zero, whenS_zero (by decide), whenS_zero (by decide)] at h1
      rw [firstS_cons, firstS_cons, whenS_zero (by decide)] at h2
      have a1 := of_decide_eq_false h1.2.2.1
      have a2 := of_decide_eq_false h2.2.1
      have h3 : holesS t.smp.length (-1) t.holes = 0 := by
        unfold holeR at h
        split at h
        · rename_i hx; exact absurd h hx
        · rename_i hx; exact Classical.byContradiction hx
      exact ⟨⟨h1.2.1, by omega, hl, hp, holesS_ok _ _ _ h3⟩, by omega⟩
theorem readS_len (t : Rn) : (readS t).length = t.smp.length := readJ_len _ _ _ _
theorem readS_known {t : Rn} {i : Nat} (h : i < t.smp.length) : ((readS t).getD i (0, false)).2 = knownB t.holes i := by
  unfold readS
  rw [readJ_at _ _ _ _ _ h]
  cases hk : knownB t.holes i with
  | true => rw [if_pos ⟨rfl, by omega⟩]
  | false => rw [if_neg (fun e => by cases e.1)]
theorem readS_smp {t : Rn} {i : Nat} (h : i < t.smp.length) (hk : knownB t.holes i = true) : ((readS t).getD i (0, false)).1 = t.smp.getD i 0 := by
  unfold readS
  rw [readJ_at _ _ _ _ _ h, if_pos ⟨hk, by omega⟩]
theorem lvB_in {t : Rn} {p : Int} {i : Nat} (h : i < t.smp.length) (e : p - t.first = i) : lvB t p = knownB t.holes i := by
  unfold lvB
  rw [e, decide_eq_true ⟨by omega, by omega⟩]
  rfl
theorem lvS_in {t : Rn} {p : Int} {i : Nat} (h : i < t.smp.length) (e : p - t.first = i) (hk : knownB t.holes i = true) : lvS t p = cutW (x16 (t.smp.getD i 0)) := by
  unfold lvS
  rw [lvB_in h e, if_pos hk, e, Int.toNat_natCast]
theorem lvB_out {t : Rn} {p : Int} (h : ¬ (0 ≤ p - t.first ∧ p - t.first < t.smp.length)) : lvB t p = false := by
  unfold lvB
  rw [decide_eq_false h]
  rfl
theorem mem_getD {l : List Nat} {i : Nat} (h : i < l.length) : l.getD i 0 ∈ l := by
  rw [List.getD_eq_getElem?_getD, List.getElem?_eq_getElem h]
  exact List.getElem_mem h
def twoIn (a b : Rn) : List (Nat × Chunk) := [(0, .ro a.smp.length 1 (flC a.smp)), (1, .ro a.holes.length 2 (spC a.holes)), (2, .ro b.smp.length 1 (flC b.smp)), (3, .ro b.holes.length 2 (spC b.holes))]

end Go.Proofs.YtoopgdchiljmiaaGreatDoor
