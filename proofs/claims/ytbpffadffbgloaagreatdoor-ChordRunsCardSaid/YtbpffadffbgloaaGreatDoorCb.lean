/- From a law's run to its card: a world with the tables, a law called. -/
import Derived.Test.YtbpffadffbgloaaGreatDoorCa
set_option linter.unusedVariables false
set_option linter.unusedSimpArgs false
namespace Go.Proofs.YtbpffadffbgloaaGreatDoor
open Go.RowKit Go.Sym
open Go.ChangeShapes Go.WideShapes Go.ChangeAt

/-- Where the arguments lie. -/
def lawEnv (l : List Value) : Env := fun i => match i with
  | 0 => some ⟨some ⟨0, 0, none⟩, 0⟩
  | k + 1 => (l[k]?).map locV
theorem pow_holds {W : World} {l : List Value} (h : ∃ t fr, W.heap[0]? = some (.cells ([1, 0, 0, 1, -1, 0, 0, -1].map fun z => Value.int .i64 z).toArray t fr)) : powC.holds (lawEnv l) 0 W := by
  obtain ⟨t, fr, h⟩ := h
  exact ⟨_, _, _, rfl, rfl, t, fr, h⟩
/-- What a law's run gives. -/
theorem law_done {hin hout : List (Nat × Chunk)} {ρ : Env} {w w' : World} {e : Ending} (hno : ∀ i c, Sym.look i hin = some c → c.own = false) (h : CallPost hin hout (bl true) ρ w e w') : e = .returned (.bool true) ∧ Below w.heap.size w w' := by
  obtain ⟨ρ', v, rfl, h1, _, _, _, h2⟩ := h
  have hv : v = .bool true := by simp only [AV.den, Option.some.injEq] at h1; exact h1.symm
  subst hv
  refine ⟨rfl, h2.below fun g _ hg => ?_⟩
  obtain ⟨i, c, e, ho, _⟩ := hg
  rw [hno i c e] at ho
  cases ho
theorem lawIn_no (t : List (Nat × Chunk)) (h : t.all (fun x => !x.2.own) = true) : ∀ i c, Sym.look i t = some c → c.own = false := by
  intro i c e
  have := List.all_eq_true.1 h (i, c) (look_mem e)
  simpa using this

/-- A block's cells set anew. -/
def setCells (h : Array Obj) (g : Nat) (cs : Array Value) : Array Obj := h.modify g fun
  | .cells _ t frozen => .cells cs t frozen
  | o => o
/-- A world whose tables are laid. -/
noncomputable def laidHeap (h : Array Obj) : Array Obj :=
  setCells (setCells (setCells (setCells h 0 ([1, 0, 0, 1, -1, 0, 0, -1].map fun z => Value.int .i64 z).toArray) 1 ([1, 10, 100, 1000, 10000, 100000, 1000000, 10000000, 100000000, 1000000000, 10000000000, 100000000000, 1000000000000, 10000000000000, 100000000000000, 1000000000000000, 10000000000000000, 100000000000000000, 1000000000000000000, 10000000000000000000].map fun z => Value.int .u64 z).toArray) 5 ([0, 1, 28, 2, 29, 14, 24, 3, 30, 22, 20, 15, 25, 17, 4, 8, 31, 27, 13, 23, 21, 19, 16, 7, 26, 12, 18, 6, 11, 5, 10, 9].map fun z => Value.int .u8 z).toArray) 6 ([0, 1, 56, 2, 57, 49, 28, 3, 61, 58, 42, 50, 38, 29, 17, 4, 62, 47, 59, 36, 45, 43, 51, 22, 53, 39, 33, 30, 24, 18, 12, 5, 63, 55, 48, 27, 60, 41, 37, 16, 46, 35, 44, 21, 52, 32, 23, 11, 54, 26, 40, 15, 34, 20, 31, 10, 25, 14, 19, 9, 13, 8, 7, 6].map fun z => Value.int .u8 z).toArray
noncomputable def laidW (os : Os) : World := { World.holding Tryz.prog os ⟨#[], #[], []⟩ with heap := laidHeap (World.holding Tryz.prog os ⟨#[], #[], []⟩).heap }

end Go.Proofs.YtbpffadffbgloaaGreatDoor
