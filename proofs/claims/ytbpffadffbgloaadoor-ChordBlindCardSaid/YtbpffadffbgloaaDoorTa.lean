/- The program's sum, its first, within and read, in the runs' style; what the reference's sum and reversed trace are. -/
import Derived.Test.YtbpffadffbgloaaDoorRd
set_option linter.unusedVariables false
set_option linter.unusedSimpArgs false
namespace Go.Proofs.YtbpffadffbgloaaDoor
open Go.RowKit Go.Shelf Go.Sym

/-- Two traces that are read. -/
def hin4 (s t : Tr) : List (Nat × Chunk) := [(0, .ro s.vals.length 1 (.ints .i64 s.vals)), (1, .ro s.holes.length 2 (spC s.holes)), (2, .ro t.vals.length 1 (.ints .i64 t.vals)), (3, .ro t.holes.length 2 (spC t.holes))]
def PFirst_i (l : List Int) (σ : Sym.Ren) : Inst := { f := 72, hin := [(0, .ro l.length 1 (.ints .i64 l))], args := [.sl 0 l.length], hout := [], ret := i64 (firstS l), σ := σ }
theorem PFirst_s (l : List Int) (σ : Sym.Ren) : (PFirst_i l σ).ok Tryd.prog := by
  refine ⟨⟨_, Tryd.func72, rfl⟩, fun ρ w vs hdom _ hh hd => ?_⟩
  obtain ⟨L1, p1, p2⟩ := rd_of_ro (hh.holds 0 _ rfl) (intsC_cells _) (by decide)
  simp only [PFirst_i, AV.denL, AV.den, p1, Option.map_some, listO, Option.some.injEq] at hd
  subst hd
  refine (first_c _ l w p2).mono ?_
  rintro e w' ⟨rfl, rfl⟩
  exact post_of_lit (Below.refl _ _)
def PWithin_i (n lo hi : Int) : Inst := { f := 81, hin := [], args := [i64 n, i64 lo, i64 hi], hout := [], ret := i64 (withinS n lo hi), σ := [] }
theorem PWithin_s (n lo hi : Int) : (PWithin_i n lo hi).ok Tryd.prog := by
  refine ⟨⟨_, Tryd.func81, rfl⟩, fun ρ w vs hdom _ hh hd => ?_⟩
  simp only [PWithin_i, AV.denL, AV.den, Option.map_some, listO, Option.some.injEq] at hd
  subst hd
  refine (within_c n lo hi w).mono ?_
  rintro e w' ⟨rfl, rfl⟩
  exact post_of_lit (Below.refl _ _)
def PWhen_i (b : Bool) (e : Int) : Inst := { f := 90, hin := [], args := [bl b, i64 e], hout := [], ret := i64 (whenS b e), σ := [] }
theorem PWhen_s (b : Bool) (e : Int) : (PWhen_i b e).ok Tryd.prog := by
  refine ⟨⟨_, Tryd.func90, rfl⟩, fun ρ w vs hdom _ hh hd => ?_⟩
  simp only [PWhen_i, AV.denL, AV.den, Option.map_some, listO, Option.some.injEq] at hd
  subst hd
  refine (when_c b e w).mono ?_
  rintro e w' ⟨rfl, rfl⟩
  exact post_of_lit (Below.refl _ _)
def PReading_i (n : Int) : Inst := { f := 99, hin := [], args := [i64 n], hout := [], ret := i64 (readingS n), σ := [] }
theorem PReading_s (n : Int) : (PReading_i n).ok Tryd.prog := by
  refine ⟨⟨_, Tryd.func99, rfl⟩, fun ρ w vs hdom _ hh hd => ?_⟩
  simp only [PReading_i, AV.denL, AV.den, Option.map_some, listO, Option.some.injEq] at hd
  subst hd
  refine (checkReading_c n w).mono ?_
  rintro e w' ⟨rfl, rfl⟩
  exact post_of_lit (Below.refl _ _)

def PRead_i (t : Tr) (σ : Sym.Ren) : Inst := { f := 73, hin := trIn t, args := [trA 0 1 t], hout := [(2, .row 4 t.vals.length 1 (.bools (knS t.vals.length t.holes)))], ret := .agg [i64 t.first, .sl 0 t.vals.length, .sl 1 t.holes.length, .sl 2 t.vals.length], σ := σ }
theorem PRead_s (t : Tr) (σ : Sym.Ren) (hl : t.vals.length ≤ 4096) (hok : HolesOk t.vals.length t.holes) : (PRead_i t σ).ok Tryd.prog := by
  refine ⟨⟨_, Tryd.func73, rfl⟩, fun ρ w vs hdom _ hh hd => ?_⟩
  obtain ⟨L1, L2, p1, p2, hr⟩ := tr_args (i := 0) (j := 1) hh rfl rfl
  simp only [PRead_i, trA, AV.denL, AV.den, p1, p2, Option.map_some, listO, Option.some.injEq] at hd
  subst hd
  refine (read_own _ _ t w hr hl hok).mono ?_
  rintro e w' ⟨g, rfl, g1, g3, g2⟩
  have hno : ρ 2 = none := by
    cases e : ρ 2 with
    | none => rfl
    | some L' => have := hdom 2 L' e; cases this
  let ρ' : Env := fun j => if j = 2 then some ⟨some ⟨g, 0, none⟩, t.vals.length⟩ else ρ j
  have e2 : ρ' 2 = some ⟨some ⟨g, 0, none⟩, t.vals.length⟩ := by simp [ρ']
  have e0 : ρ' 0 = some L1 := by simp [ρ', p1]
  have e1 : ρ' 1 = some L2 := by simp [ρ', p2]
  have hrow : (Chunk.row 4 t.vals.length 1 (.bools (knS t.vals.length t.holes))).holds ρ' 2 w' :=
    row_of_blk (vs := bools (knS t.vals.length t.holes)) e2 (by simp [Cont.cells, bools]) (by simp [bools, knS_len]) (by unfold maxLen; omega) g1
  have only : ∀ {j : Nat} {c : Chunk}, Sym.look j [(2, Chunk.row 4 t.vals.length 1 (.bools (knS t.vals.length t.holes)))] = some c → j = 2 ∧ c = .row 4 t.vals.length 1 (.bools (knS t.vals.length t.holes)) := by
    intro j c e
    rw [look_cons] at e
    split at e
    · rename_i hj; cases e; exact ⟨hj, rfl⟩
    · cases e
  refine ⟨ρ', _, rfl, ?_, fun j L' e => ?_, ⟨fun j c e => ?_, fun j c e _ j' c' e' hne => ?_⟩, fun g' hg => ?_, Sym.Touch.of_below g3⟩
  · unfold PRead_i
    simp only [AV.den, AV.denL, e0, e1, e2, Option.map_some, listO]
    rfl
  · have : j ≠ 2 := by rintro rfl; rw [hno] at e; cases e
    simp [ρ', this, e]
  · obtain ⟨rfl, rfl⟩ := only e
    exact hrow
  · obtain ⟨rfl, _⟩ := only e
    obtain ⟨rfl, _⟩ := only e'
    exact absurd rfl hne
  · obtain ⟨j, c, e, ho⟩ := hg
    obtain ⟨rfl, rfl⟩ := only e
    obtain ⟨L', a', o1, o2, o3⟩ := ho
    rw [e2] at o1
    cases o1; cases o2; subst o3
    exact .inl g2

/-- The sums of two traces, as the reference has them. -/
def sumV (s t : Tr) : List (Int × Bool) := (List.range s.vals.length).map fun (i : Nat) => (s.vals.getD i 0 + t.vals.getD i 0, knownB s.holes i && knownB t.holes i)
theorem sumV_len (s t : Tr) : (sumV s t).length = s.vals.length := by simp [sumV]
theorem sumV_get (s t : Tr) (i : Nat) (h : i < s.vals.length) : (sumV s t).getD i (0, false) = (s.vals.getD i 0 + t.vals.getD i 0, knownB s.holes i && knownB t.holes i) := by simp [sumV, h]
def RSumS (s t : Tr) : Tr × Int := if s.first = t.first ∧ s.vals.length = t.vals.length then madeS s.first (sumV s t) else (⟨0, [], []⟩, 2)
theorem sumsS_eq (s t : Tr) (h : s.vals.length = t.vals.length) : sumsS s t = sumV s t := by
  unfold sumsS sumV
  refine List.map_congr_left fun i hi => ?_
  have hi := List.mem_range.1 hi
  rw [knS_get _ _ _ hi, knS_get _ _ _ (h ▸ hi)]
  simp [List.getD_eq_getElem?_getD]
theorem SumS_ok {s t : Tr} (hs : traceS s = 0) (ht : traceS t = 0) : SumS s t = RSumS s t := by
  unfold SumS RSumS
  by_cases h : s.first = t.first ∧ s.vals.length = t.vals.length
  · have e : firstS [traceS s, traceS t, whenS (!alikeS s t) 2] = 0 := by
      rw [hs, ht]; simp [firstS, alikeS, h.1, h.2, whenS]
    rw [if_pos h]
    dsimp only
    rw [if_neg (by rw [e]; decide), sumsS_eq _ _ h.2]
    rfl
  · have e : firstS [traceS s, traceS t, whenS (!alikeS s t) 2] = 2 := by
      have : alikeS s t = false := by
        unfold alikeS
        rw [← Bool.decide_and]; exact decide_eq_false h
      rw [hs, ht, this]; rfl
    rw [if_neg h]
    dsimp only
    rw [if_pos (by rw [e]; decide), e]
theorem SumS_err {s t : Tr} (h : firstS [traceS s, traceS t] ≠ 0) : SumS s t = (⟨0, [], []⟩, firstS [traceS s, traceS t]) := by
  have e : firstS [traceS s, traceS t, whenS (!alikeS s t) 2] = firstS [traceS s, traceS t] := by
    by_cases h1 : traceS s = 0
    · by_cases h2 : traceS t = 0
      · exact absurd (by simp [firstS, h1, h2]) h
      · simp [firstS, h1, h2]
    · simp [firstS, h1]
  unfold SumS
  dsimp only
  rw [if_pos (by rw [e]; exact h), e]

/-- A reversed trace, as the reference has it. -/
def RReversedS (t : Tr) (pivot : Int) : Tr × Int :=
  if 2 * pivot + 1 - t.first - t.vals.length < 0 ∨ 100000000 < 2 * pivot + 1 - t.first - t.vals.length + t.vals.length then (⟨0, [], []⟩, 14) else madeS (2 * pivot + 1 - t.first - t.vals.length) (valuesS t.vals t.holes).reverse
def ReversedS (t : Tr) (pivot : Int) : Tr × Int :=
  if firstS [traceS t, withinS pivot 0 100000000] ≠ 0 then (⟨0, [], []⟩, firstS [traceS t, withinS pivot 0 100000000]) else RReversedS t pivot
theorem valuesS_good {t : Tr} (h : ∀ x ∈ t.vals, -1073741824 ≤ x ∧ x ≤ 1073741824) : ∀ x ∈ valuesS t.vals t.holes, badS x = false := by
  intro x hx
  obtain ⟨i, hi, rfl⟩ := List.mem_map.1 hx
  have hi := List.mem_range.1 hi
  have := h _ (List.getElem_mem hi)
  have e : readingS (t.vals.getD i 0) = 0 := by
    unfold readingS
    rw [withinS_eq, List.getD_eq_getElem?_getD, List.getElem?_eq_getElem hi]
    exact this
  unfold badS
  rw [e]; simp

end Go.Proofs.YtbpffadffbgloaaDoor
