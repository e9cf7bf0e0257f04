/- Chapter 5: rides, costs and pairs opened. -/
import Derived.Test.YtfmnfagcbehmdaaGreatDoorDs
import Derived.Test.YtfmnfagcbehmdaaGreatDoorDy
set_option linter.unusedVariables false
set_option linter.unusedSimpArgs false
namespace Go.Proofs.YtfmnfagcbehmdaaGreatDoor
open Go.RowKit Go.Sym
open Go.ChangeShapes Go.WideShapes Go.ChangeAt

def things (l : List Th) : List Value := l.flatMap thV
theorem things_len (l : List Th) : (things l).length = l.length * 2 := by
  induction l with
  | nil => rfl
  | cons x l ih => simp only [things, List.flatMap_cons, List.length_append, List.length_cons] at ih ⊢; rw [ih]; simp only [thV, List.length_cons, List.length_nil]; omega
theorem thC_cells (l : List Th) : (thC l).cells = (things l).map AV.lit := genL_cells (f := thV) (fun _ => rfl) l
theorem things_at : ∀ (l : List Th) (i : Nat) (h : i < l.length), (things l)[i * 2]? = some (.string l[i].kind) ∧ (things l)[i * 2 + 1]? = some (.int .i64 l[i].place)
  | x :: l, 0, h => by simp [things, thV]
  | x :: l, i + 1, h => by
    obtain ⟨h1, h2⟩ := things_at l i (by simpa using h)
    have e1 : (i + 1) * 2 = i * 2 + 2 := by omega
    constructor
    · rw [e1]; simpa [things, thV] using h1
    · rw [e1]; simpa [things, thV] using h2

theorem open_marks_rd {W : World} {H : Type} {enc : TypeId × Value → H} {fuel : Nat} {v : Value} {x : DataW H × List MemPlace} (h : DataW.trod enc Tryz.prog W 0 (fun _ => true) true fuel 22 [v] = some x) :
    ∃ (l : List Th), Rd W W.heap.size 2 v l.length (things l) := by
  have ht : Tryz.prog.underlying 22 = some (.slice 122) := by kernel_rfl
  have hu : ∃ f0 f1, Tryz.prog.underlying 122 = some (.struct #[f0, f1]) ∧ f0.type = 9 ∧ f1.type = 3 ∧ f0.offset = 0 ∧ f1.offset = 1 := ⟨_, _, Tryz.underlying122, rfl, rfl, rfl, rfl⟩
  obtain ⟨f0, f1, hu, t0, t1, o0, o1⟩ := hu
  have hts : Tryz.prog.underlying 9 = some .string := by kernel_rfl
  have ht3 : Tryz.prog.underlying 3 = some (.int .i64) := by kernel_rfl
  have cs3 : Tryz.prog.cellsOf 9 = 1 := by kernel_rfl
  have c3 : Tryz.prog.cellsOf 3 = 1 := by kernel_rfl
  have c2 : Tryz.prog.cellsOf 122 = 2 := by kernel_rfl
  rcases Deep.open_slice_pairs ht hu c2 o0 o1 (by rw [t0]; exact cs3) (by rw [t1]; exact c3) h with ⟨hcs, _⟩ | ⟨a, len, cap, m, n, V0, V1, D0, D1, P0, P1, hcs, _, hl, hm, hmm, _, hx⟩
  · cases hcs; exact ⟨[], Rd.nil _ _ _⟩
  · cases hcs
    simp only [if_true] at hmm
    subst hmm
    have hint : ∀ i, i < m → V0 i = .string (strOf' (V0 i)) ∧ V1 i = .int .i64 (intOf' (V1 i)) := by
      intro i hi
      obtain ⟨_, _, h3, h4⟩ := hx i hi
      rw [t0] at h3
      rw [t1] at h4
      obtain ⟨x0, e0, _, _⟩ := DataW.trod_string hts h3
      obtain ⟨x1, e1, _, _⟩ := DataW.trod_int ht3 h4
      simp only [List.cons.injEq, and_true] at e0 e1
      rw [e0, e1]; exact ⟨rfl, rfl⟩
    let l : List Th := (List.range len).map fun i => ⟨strOf' (V0 i), intOf' (V1 i)⟩
    have hlen : l.length = len := by simp [l]
    refine ⟨l, ?_⟩
    rw [hlen]
    refine ⟨by rw [things_len, hlen], some a, m, rfl, hl, hm, fun h0 => ⟨a, rfl, ?_, fun j u hu => ?_⟩⟩
    · have h1 := (hx 0 (by omega)).1
      exact World.block_lt_of_cell? W _ h1
    · have hj : j < len * 2 := by
        have := (List.getElem?_eq_some_iff.1 hu).1
        rw [things_len, hlen] at this; exact this
      have hk : j / 2 < l.length := by omega
      obtain ⟨s0, s1⟩ := things_at l (j / 2) hk
      have hli : l[j / 2] = ⟨strOf' (V0 (j / 2)), intOf' (V1 (j / 2))⟩ := by simp [l]
      obtain ⟨h1, h2, _, _⟩ := hx (j / 2) (by omega)
      obtain ⟨i0, i1⟩ := hint (j / 2) (by omega)
      rcases (by omega : j = j / 2 * 2 ∨ j = j / 2 * 2 + 1) with e | e
      · rw [e] at hu ⊢
        rw [s0, hli] at hu
        rw [h1, i0]; exact hu
      · rw [e] at hu ⊢
        rw [s1, hli] at hu
        rw [h2, i1]; exact hu

theorem open_sights_rd {W : World} {H : Type} {enc : TypeId × Value → H} {fuel : Nat} {v : Value} {x : DataW H × List MemPlace} (h : DataW.trod enc Tryz.prog W 0 (fun _ => true) true fuel 23 [v] = some x) :
    ∃ (l : List Th), Rd W W.heap.size 2 v l.length (things l) := by
  have ht : Tryz.prog.underlying 23 = some (.slice 124) := by kernel_rfl
  have hu : ∃ f0 f1, Tryz.prog.underlying 124 = some (.struct #[f0, f1]) ∧ f0.type = 9 ∧ f1.type = 3 ∧ f0.offset = 0 ∧ f1.offset = 1 := ⟨_, _, Tryz.underlying124, rfl, rfl, rfl, rfl⟩
  obtain ⟨f0, f1, hu, t0, t1, o0, o1⟩ := hu
  have hts : Tryz.prog.underlying 9 = some .string := by kernel_rfl
  have ht3 : Tryz.prog.underlying 3 = some (.int .i64) := by kernel_rfl
  have cs3 : Tryz.prog.cellsOf 9 = 1 := by kernel_rfl
  have c3 : Tryz.prog.cellsOf 3 = 1 := by kernel_rfl
  have c2 : Tryz.prog.cellsOf 124 = 2 := by kernel_rfl
  rcases Deep.open_slice_pairs ht hu c2 o0 o1 (by rw [t0]; exact cs3) (by rw [t1]; exact c3) h with ⟨hcs, _⟩ | ⟨a, len, cap, m, n, V0, V1, D0, D1, P0, P1, hcs, _, hl, hm, hmm, _, hx⟩
  · cases hcs; exact ⟨[], Rd.nil _ _ _⟩
  · cases hcs
    simp only [if_true] at hmm
    subst hmm
    have hint : ∀ i, i < m → V0 i = .string (strOf' (V0 i)) ∧ V1 i = .int .i64 (intOf' (V1 i)) := by
      intro i hi
      obtain ⟨_, _, h3, h4⟩ := hx i hi
      rw [t0] at h3
      rw [t1] at h4
      obtain ⟨x0, e0, _, _⟩ := DataW.trod_string hts h3
      obtain ⟨x1, e1, _, _⟩ := DataW.trod_int ht3 h4
      simp only [List.cons.injEq, and_true] at e0 e1
      rw [e0, e1]; exact ⟨rfl, rfl⟩
    let l : List Th := (List.range len).map fun i => ⟨strOf' (V0 i), intOf' (V1 i)⟩
    have hlen : l.length = len := by simp [l]
    refine ⟨l, ?_⟩
    rw [hlen]
    refine ⟨by rw [things_len, hlen], some a, m, rfl, hl, hm, fun h0 => ⟨a, rfl, ?_, fun j u hu => ?_⟩⟩
    · have h1 := (hx 0 (by omega)).1
      exact World.block_lt_of_cell? W _ h1
    · have hj : j < len * 2 := by
        have := (List.getElem?_eq_some_iff.1 hu).1
        rw [things_len, hlen] at this; exact this
      have hk : j / 2 < l.length := by omega
      obtain ⟨s0, s1⟩ := things_at l (j / 2) hk
      have hli : l[j / 2] = ⟨strOf' (V0 (j / 2)), intOf' (V1 (j / 2))⟩ := by simp [l]
      obtain ⟨h1, h2, _, _⟩ := hx (j / 2) (by omega)
      obtain ⟨i0, i1⟩ := hint (j / 2) (by omega)
      rcases (by omega : j = j / 2 * 2 ∨ j = j / 2 * 2 + 1) with e | e
      · rw [e] at hu ⊢
        rw [s0, hli] at hu
        rw [h1, i0]; exact hu
      · rw [e] at hu ⊢
        rw [s1, hli] at hu
        rw [h2, i1]; exact hu

def prs (l : List (Int × Int)) : List Value := l.flatMap prV
theorem prs_len (l : List (Int × Int)) : (prs l).length = l.length * 2 := by
  induction l with
  | nil => rfl
  | cons x l ih => simp only [prs, List.flatMap_cons, List.length_append, List.length_cons] at ih ⊢; rw [ih]; simp only [prV, List.length_cons, List.length_nil]; omega
theorem prC_cells (l : List (Int × Int)) : (prC l).cells = (prs l).map AV.lit := genL_cells (f := prV) (fun _ => rfl) l
theorem prs_at : ∀ (l : List (Int × Int)) (i : Nat) (h : i < l.length), (prs l)[i * 2]? = some (.int .i64 l[i].1) ∧ (prs l)[i * 2 + 1]? = some (.int .i64 l[i].2)
  | x :: l, 0, h => by simp [prs, prV]
  | x :: l, i + 1, h => by
    obtain ⟨h1, h2⟩ := prs_at l i (by simpa using h)
    have e1 : (i + 1) * 2 = i * 2 + 2 := by omega
    constructor
    · rw [e1]; simpa [prs, prV] using h1
    · rw [e1]; simpa [prs, prV] using h2

theorem open_pairs_rd {W : World} {H : Type} {enc : TypeId × Value → H} {fuel : Nat} {v : Value} {x : DataW H × List MemPlace} (h : DataW.trod enc Tryz.prog W 0 (fun _ => true) true fuel 46 [v] = some x) :
    ∃ (l : List (Int × Int)), Rd W W.heap.size 2 v l.length (prs l) := by
  have ht : Tryz.prog.underlying 46 = some (.slice 76) := by kernel_rfl
  have hu : ∃ f0 f1, Tryz.prog.underlying 76 = some (.struct #[f0, f1]) ∧ f0.type = 3 ∧ f1.type = 3 ∧ f0.offset = 0 ∧ f1.offset = 1 := ⟨_, _, Tryz.underlying76, rfl, rfl, rfl, rfl⟩
  obtain ⟨f0, f1, hu, t0, t1, o0, o1⟩ := hu
  have hts : Tryz.prog.underlying 9 = some .string := by kernel_rfl
  have ht3 : Tryz.prog.underlying 3 = some (.int .i64) := by kernel_rfl
  have cs3 : Tryz.prog.cellsOf 9 = 1 := by kernel_rfl
  have c3 : Tryz.prog.cellsOf 3 = 1 := by kernel_rfl
  have c2 : Tryz.prog.cellsOf 76 = 2 := by kernel_rfl
  rcases Deep.open_slice_pairs ht hu c2 o0 o1 (by rw [t0]; exact c3) (by rw [t1]; exact c3) h with ⟨hcs, _⟩ | ⟨a, len, cap, m, n, V0, V1, D0, D1, P0, P1, hcs, _, hl, hm, hmm, _, hx⟩
  · cases hcs; exact ⟨[], Rd.nil _ _ _⟩
  · cases hcs
    simp only [if_true] at hmm
    subst hmm
    have hint : ∀ i, i < m → V0 i = .int .i64 (intOf' (V0 i)) ∧ V1 i = .int .i64 (intOf' (V1 i)) := by
      intro i hi
      obtain ⟨_, _, h3, h4⟩ := hx i hi
      rw [t0] at h3
      rw [t1] at h4
      obtain ⟨x0, e0, _, _⟩ := DataW.trod_int ht3 h3
      obtain ⟨x1, e1, _, _⟩ := DataW.trod_int ht3 h4
      simp only [List.cons.injEq, and_true] at e0 e1
      rw [e0, e1]; exact ⟨rfl, rfl⟩
    let l : List (Int × Int) := (List.range len).map fun i => (intOf' (V0 i), intOf' (V1 i))
    have hlen : l.length = len := by simp [l]
    refine ⟨l, ?_⟩
    rw [hlen]
    refine ⟨by rw [prs_len, hlen], some a, m, rfl, hl, hm, fun h0 => ⟨a, rfl, ?_, fun j u hu => ?_⟩⟩
    · have h1 := (hx 0 (by omega)).1
      exact World.block_lt_of_cell? W _ h1
    · have hj : j < len * 2 := by
        have := (List.getElem?_eq_some_iff.1 hu).1
        rw [prs_len, hlen] at this; exact this
      have hk : j / 2 < l.length := by omega
      obtain ⟨s0, s1⟩ := prs_at l (j / 2) hk
      have hli : l[j / 2] = (intOf' (V0 (j / 2)), intOf' (V1 (j / 2))) := by simp [l]
      obtain ⟨h1, h2, _, _⟩ := hx (j / 2) (by omega)
      obtain ⟨i0, i1⟩ := hint (j / 2) (by omega)
      rcases (by omega : j = j / 2 * 2 ∨ j = j / 2 * 2 + 1) with e | e
      · rw [e] at hu ⊢
        rw [s0, hli] at hu
        rw [h1, i0]; exact hu
      · rw [e] at hu ⊢
        rw [s1, hli] at hu
        rw [h2, i1]; exact hu

set_option maxRecDepth 20000 in
theorem open_ride {W : World} {H : Type} {enc : TypeId × Value → H} {r : Reach} {b0 : Nat} {v : Value} {d : DataW H} {p : List MemPlace} (hval : Value.okWide Tryz.prog W r b0 25 v)
    (h : DataW.Trod enc Tryz.prog W 0 (fun _ => true) true 25 v d p) : ∃ (m s : List Th) (vv hv : Value), v = .agg #[vv, hv] ∧ Rd W W.heap.size 2 vv m.length (things m) ∧ Rd W W.heap.size 2 hv s.length (things s) := by
  have hu : ∃ f0 f1, Tryz.prog.underlying 25 = some (.struct #[f0, f1]) ∧ f0.type = 22 ∧ f1.type = 23 ∧ f0.offset = 0 ∧ f1.offset = 1 := ⟨_, _, Tryz.underlying25, rfl, rfl, rfl, rfl⟩
  obtain ⟨f0, f1, hu, t0, t1, o0, o1⟩ := hu
  have c4 : Tryz.prog.cellsOf 22 = 1 := by kernel_rfl
  have c5 : Tryz.prog.cellsOf 23 = 1 := by kernel_rfl
  have c2 : Tryz.prog.cellsOf 25 = 2 := by kernel_rfl
  obtain ⟨cs, rfl, hcs⟩ := okWide_struct hu hval
  obtain ⟨fuel, hf⟩ := h
  obtain ⟨xs, n, _, _, hl, hlen, hg⟩ := DataW.trod_struct hu hf
  match xs, hlen with
  | [y0, y1], _ =>
    have g0 := hg 0 f0 rfl
    have g1 := hg 1 f1 rfl
    rw [t0, c4, o0] at g0
    rw [t1, c5, o1] at g1
    obtain ⟨l⟩ := cs
    rw [c2] at hcs
    match l, hcs with
    | [a, b], _ =>
      simp [Value.cells] at g0 g1
      obtain ⟨m, h1⟩ := open_marks_rd g0
      obtain ⟨s, h2⟩ := open_sights_rd g1
      exact ⟨m, s, a, b, rfl, h1, h2⟩

end Go.Proofs.YtfmnfagcbehmdaaGreatDoor

namespace Go.Proofs.YtfmnfagcbehmdaaGreatDoor
open Go.RowKit Go.Sym
open Go.ChangeShapes Go.WideShapes Go.ChangeAt

set_option maxRecDepth 20000 in
theorem open_pairsA {W : World} {H : Type} {enc : TypeId × Value → H} {r : Reach} {b0 : Nat} {v : Value} {d : DataW H} {p : List MemPlace} (hval : Value.okWide Tryz.prog W r b0 46 v)
    (h : DataW.Trod enc Tryz.prog W 0 (fun _ => true) true 46 v d p) : ∃ l : List (Int × Int), Rd W W.heap.size 2 v l.length (prs l) := by
  have ht : Tryz.prog.underlying 46 = some (.slice 76) := by kernel_rfl
  simp only [Value.okWide, ht] at hval
  obtain ⟨fuel, hf⟩ := h
  have hc : v.cells.toList = [v] := by
    cases v with
    | agg cs => simp [Cell.okWide, Cell.ok, ht] at hval
    | _ => rfl
  rw [hc] at hf
  exact open_pairs_rd hf
set_option maxRecDepth 20000 in
theorem open_costs {W : World} {H : Type} {enc : TypeId × Value → H} {r : Reach} {b0 : Nat} {sp : Nat → Bool} {v : Value} {d : DataW H} {p : List MemPlace} (hval : Value.okWide Tryz.prog W r b0 27 v)
    (h : DataW.Trod enc Tryz.prog W 0 sp true 27 v d p) : ∃ c : Cs, v = .agg #[.int .i64 c.missed, .int .i64 c.unseen, .int .i64 c.stretch] := by
  have hu : ∃ f0 f1 f2, Tryz.prog.underlying 27 = some (.struct #[f0, f1, f2]) ∧ f0.type = 3 ∧ f1.type = 3 ∧ f2.type = 3 ∧ f0.offset = 0 ∧ f1.offset = 1 ∧ f2.offset = 2 := ⟨_, _, _, Tryz.underlying27, rfl, rfl, rfl, rfl, rfl, rfl⟩
  obtain ⟨f0, f1, f2, hu, t0, t1, t2, o0, o1, o2⟩ := hu
  have ht3 : Tryz.prog.underlying 3 = some (.int .i64) := by kernel_rfl
  have c3 : Tryz.prog.cellsOf 3 = 1 := by kernel_rfl
  have c2 : Tryz.prog.cellsOf 27 = 3 := by kernel_rfl
  obtain ⟨cs, rfl, hcs⟩ := okWide_struct hu hval
  obtain ⟨fuel, hf⟩ := h
  obtain ⟨xs, n, _, _, hl, hlen, hg⟩ := DataW.trod_struct hu hf
  match xs, hlen with
  | [y0, y1, y2], _ =>
    have g0 := hg 0 f0 rfl
    have g1 := hg 1 f1 rfl
    have g2 := hg 2 f2 rfl
    rw [t0, c3, o0] at g0
    rw [t1, c3, o1] at g1
    rw [t2, c3, o2] at g2
    obtain ⟨x0, e0, _, _⟩ := DataW.trod_int ht3 g0
    obtain ⟨x1, e1, _, _⟩ := DataW.trod_int ht3 g1
    obtain ⟨x2, e2, _, _⟩ := DataW.trod_int ht3 g2
    obtain ⟨l⟩ := cs
    rw [c2] at hcs
    match l, hcs with
    | [a, b, c], _ =>
      simp [Value.cells] at e0 e1 e2
      exact ⟨⟨x0, x1, x2⟩, by rw [e0, e1, e2]⟩

end Go.Proofs.YtfmnfagcbehmdaaGreatDoor
