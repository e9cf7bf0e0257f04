/- Contracts in the old style, in the runs' style: the program's functions of chapter 3, for all arguments. -/
import Derived.Test.YtbpffadffbgloaaGreatDoorQ
import Derived.Test.YtbpffadffbgloaaGreatDoorN
set_option linter.unusedVariables false
set_option linter.unusedSimpArgs false
namespace Go.Proofs.YtbpffadffbgloaaGreatDoor
open Go.RowKit Go.Shelf Go.Sym

def spC (l : List (Int × Int)) : Cont := genL (fun p : Int × Int => [.int .i64 p.1, .int .i64 p.2]) (0, 0) 2 l
theorem spC_cells (l : List (Int × Int)) : (spC l).cells = (spans l).map AV.lit := genL_cells (f := fun p : Int × Int => [Value.int .i64 p.1, Value.int .i64 p.2]) (fun _ => rfl) l
theorem intsC_cells (l : List Int) : (Cont.ints .i64 l).cells = (Go.Proofs.YtbpffadffbgloaaGreatDoor.ints l).map AV.lit := by simp [Cont.cells, Go.Proofs.YtbpffadffbgloaaGreatDoor.ints]

/-- A trace that is read: two slices. -/
def trIn (t : Tr) : List (Nat × Chunk) := [(0, .ro t.vals.length 1 (.ints .i64 t.vals)), (1, .ro t.holes.length 2 (spC t.holes))]
def trA (i j : Nat) (t : Tr) : AV := .agg [i64 t.first, .sl i t.vals.length, .sl j t.holes.length]
/-- What a call answers that gives a trace and an error. -/
def trO (N : Nat) (T : Tr × Int) : List (Nat × Chunk) := [(N, .ro T.1.vals.length 1 (.ints .i64 T.1.vals)), (N + 1, .ro T.1.holes.length 2 (spC T.1.holes))]
def trR (N : Nat) (T : Tr × Int) : AV := .tup [.agg [i64 T.1.first, .sl N T.1.vals.length, .sl (N + 1) T.1.holes.length], i64 T.2]

theorem tr_args {ρ : Env} {w : World} {t : Tr} {H : List (Nat × Chunk)} {i j : Nat} (hh : Heap ρ (fun k => Sym.look k H) w) (hi : Sym.look i H = some (.ro t.vals.length 1 (.ints .i64 t.vals))) (hj : Sym.look j H = some (.ro t.holes.length 2 (spC t.holes))) :
    ∃ L1 L2, ρ i = some L1 ∧ ρ j = some L2 ∧ RdT w w.heap.size (.slice L1.ad t.vals.length L1.cap) (.slice L2.ad t.holes.length L2.cap) t := by
  obtain ⟨L1, p1, p2⟩ := rd_of_ro (hh.holds i _ hi) (intsC_cells _) (by decide)
  obtain ⟨L2, p3, p4⟩ := rd_of_ro (hh.holds j _ hj) (spC_cells _) (by decide)
  exact ⟨L1, L2, p1, p3, p2, p4⟩

theorem post_of_tr {hin : List (Nat × Chunk)} {ρ : Env} {w w' : World} {r : Ending} {T : Tr × Int} {N : Nat} (hdom : ∀ i L, ρ i = some L → (Sym.look i hin).isSome = true) (hN : Sym.look N hin = none) (hN1 : Sym.look (N + 1) hin = none)
    (h : TrPost w T r w') : CallPost hin (trO N T) (trR N T) ρ w r w' := by
  obtain ⟨vv, hv, rfl, hr, f1, f2, hb⟩ := h
  have no : ∀ {k}, Sym.look k hin = none → ρ k = none := by
    intro k hk
    cases e : ρ k with
    | none => rfl
    | some L => have := hdom k L e; rw [hk] at this; cases this
  let ρ' : Env := fun i => if i = N then some (locV vv) else if i = N + 1 then some (locV hv) else ρ i
  have e1 : ρ' N = some (locV vv) := by simp [ρ']
  have e2 : ρ' (N + 1) = some (locV hv) := by simp [ρ']
  obtain ⟨a1, a2⟩ := ro_of_rd hr.1 e1 (intsC_cells _)
  obtain ⟨b1, b2⟩ := ro_of_rd hr.2 e2 (spC_cells _)
  have occ : ∀ {v : Value} {n sz : Nat} {cs : List Value} {g k : Nat} {c : Cont}, Rd w' w'.heap.size sz v n cs → Fr w.heap.size v → ρ' k = some (locV v) → (Chunk.ro n sz c).occ ρ' k g → w.heap.size ≤ g := by
    rintro v n sz cs g k c h hf hk ⟨_, L, a, e3, e4, rfl⟩
    obtain ⟨_, A, cap, rfl, _⟩ := h
    rw [hk] at e3
    cases e3
    simp only [locV] at e4
    subst e4
    exact hf a.block rfl
  refine ⟨ρ', _, rfl, ?_, fun i L e => ?_, ⟨fun i c e => ?_, fun i c e ho j d e' hne g hg => ?_⟩, fun g hg => ?_, Sym.Touch.of_below hb⟩
  · simp only [AV.den] at a2 b2
    simp only [AV.den, AV.denL, trR, a2, b2, listO, Option.map_some]
    rfl
  · have : i ≠ N := by rintro rfl; rw [no hN] at e; cases e
    have h' : i ≠ N + 1 := by rintro rfl; rw [no hN1] at e; cases e
    simp [ρ', this, h', e]
  · simp only [trO, look_cons] at e
    split at e
    · rename_i hi; subst hi; cases e; exact a1
    · split at e
      · rename_i hi; subst hi; cases e; exact b1
      · cases e
  · simp only [trO, look_cons] at e
    split at e
    · cases e; cases ho
    · split at e
      · cases e; cases ho
      · cases e
  · obtain ⟨i, c, e, ho⟩ := hg
    simp only [trO, look_cons] at e
    split at e
    · rename_i hi; subst hi; cases e; exact .inl (occ hr.1 f1 e1 ho)
    · split at e
      · rename_i hi; subst hi; cases e; exact .inl (occ hr.2 f2 e2 ho)
      · cases e

theorem no_mem {H : List (Nat × Chunk)} : ∀ {i : Nat}, Sym.look i H = none → ∀ {c}, Sym.look i H ≠ some c := fun h => by simp [h]

def PCheckTrace_i (t : Tr) (σ : Sym.Ren) : Inst := { f := 59, hin := trIn t, args := [trA 0 1 t], hout := [], ret := i64 (traceS t), σ := σ }
theorem PCheckTrace_s (t : Tr) (σ : Sym.Ren) : (PCheckTrace_i t σ).ok Tryz.prog := by
  refine ⟨⟨_, Tryz.func59, rfl⟩, fun ρ w vs hdom _ hh hd => ?_⟩
  obtain ⟨L1, L2, p1, p2, hr⟩ := tr_args (i := 0) (j := 1) hh rfl rfl
  simp only [PCheckTrace_i, trA, AV.denL, AV.den, p1, p2, Option.map_some, listO, Option.some.injEq] at hd
  subst hd
  refine (CheckTrace_c _ _ t w hr).mono ?_
  rintro e w' ⟨rfl, hb⟩
  exact post_of_lit hb
def PCheckChord_i (b a : Int) : Inst := { f := 74, hin := [], args := [.agg [i64 b, i64 a]], hout := [], ret := i64 (chordS b a), σ := [] }
theorem PCheckChord_s (b a : Int) : (PCheckChord_i b a).ok Tryz.prog := by
  refine ⟨⟨_, Tryz.func74, rfl⟩, fun ρ w vs hdom _ hh hd => ?_⟩
  simp only [PCheckChord_i, AV.denL, AV.den, Option.map_some, listO, Option.some.injEq] at hd
  subst hd
  refine (CheckChord_c b a w).mono ?_
  rintro e w' ⟨rfl, hb⟩
  exact post_of_lit hb
def PVersines_i (b a : Int) (t : Tr) (σ : Sym.Ren) : Inst := { f := 41, hin := trIn t, args := [.agg [i64 b, i64 a], trA 0 1 t], hout := trO 2 (VersinesS b a t), ret := trR 2 (VersinesS b a t), σ := σ }
theorem PVersines_s (b a : Int) (t : Tr) (σ : Sym.Ren) : (PVersines_i b a t σ).ok Tryz.prog := by
  refine ⟨⟨_, Tryz.func41, rfl⟩, fun ρ w vs hdom _ hh hd => ?_⟩
  obtain ⟨L1, L2, p1, p2, hr⟩ := tr_args (i := 0) (j := 1) hh rfl rfl
  simp only [PVersines_i, trA, AV.denL, AV.den, p1, p2, Option.map_some, listO, Option.some.injEq] at hd
  subst hd
  exact (Versines_c b a _ _ t w hr).mono fun e w' h => post_of_tr hdom rfl rfl h
def PCurvature_i (t : Tr) (σ : Sym.Ren) : Inst := { f := 43, hin := trIn t, args := [trA 0 1 t], hout := trO 2 (VersinesS 1 1 t), ret := trR 2 (VersinesS 1 1 t), σ := σ }
theorem PCurvature_s (t : Tr) (σ : Sym.Ren) : (PCurvature_i t σ).ok Tryz.prog := by
  refine ⟨⟨_, Tryz.func43, rfl⟩, fun ρ w vs hdom _ hh hd => ?_⟩
  obtain ⟨L1, L2, p1, p2, hr⟩ := tr_args (i := 0) (j := 1) hh rfl rfl
  simp only [PCurvature_i, trA, AV.denL, AV.den, p1, p2, Option.map_some, listO, Option.some.injEq] at hd
  subst hd
  exact (Curvature_c _ _ t w hr).mono fun e w' h => post_of_tr hdom rfl rfl h

end Go.Proofs.YtbpffadffbgloaaGreatDoor
