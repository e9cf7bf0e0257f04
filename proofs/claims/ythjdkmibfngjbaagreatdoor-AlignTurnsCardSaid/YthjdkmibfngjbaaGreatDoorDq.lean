/- Chapter 5: costs and pairs opened, the table of powers. -/
import Derived.Test.YthjdkmibfngjbaaGreatDoorDp
set_option linter.unusedVariables false
set_option linter.unusedSimpArgs false
namespace Go.Proofs.YthjdkmibfngjbaaGreatDoor
open Go.RowKit Go.Sym
open Go.ChangeShapes Go.WideShapes Go.ChangeAt

set_option maxRecDepth 20000 in
theorem open_pairsA {W : World} {H : Type} {enc : TypeId × Value → H} {r : Reach} {b0 : Nat} {v : Value} {d : DataW H} {p : List MemPlace} (hval : Value.okWide Tryz.prog W r b0 28 v)
    (h : DataW.Trod enc Tryz.prog W 0 (fun _ => true) true 28 v d p) : ∃ l : List (Int × Int), Rd W W.heap.size 2 v l.length (prs l) := by
  have ht : Tryz.prog.underlying 28 = some (.slice 136) := by kernel_rfl
  simp only [Value.okWide, ht] at hval
  obtain ⟨fuel, hf⟩ := h
  have hc : v.cells.toList = [v] := by
    cases v with
    | agg cs => simp [Cell.okWide, Cell.ok, ht] at hval
    | _ => rfl
  rw [hc] at hf
  exact open_pairs_rd hf
set_option maxRecDepth 20000 in
theorem open_costs {W : World} {H : Type} {enc : TypeId × Value → H} {r : Reach} {b0 : Nat} {sp : Nat → Bool} {v : Value} {d : DataW H} {p : List MemPlace} (hval : Value.okWide Tryz.prog W r b0 27 v)
    (h : DataW.Trod enc Tryz.prog W 0 sp true 27 v d p) : ∃ c : Cs, v = .agg #[.int .i64 c.missed, .int .i64 c.unseen, .int .i64 c.stretch] := by
  have hu : ∃ f0 f1 f2, Tryz.prog.underlying 27 = some (.struct #[f0, f1, f2]) ∧ f0.type = 3 ∧ f1.type = 3 ∧ f2.type = 3 ∧ f0.offset = 0 ∧ f1.offset = 1 ∧ f2.offset = 2 := ⟨_, _, _, Tryz.underlying27, rfl, rfl, rfl, rfl, rfl, rfl⟩
  obtain ⟨f0, f1, f2, hu, t0, t1, t2, o0, o1, o2⟩ := hu
  have ht3 : Tryz.prog.underlying 3 = some (.int .i64) := by kernel_rfl
  have c3 : Tryz.prog.cellsOf 3 = 1 := by kernel_rfl
  have c2 : Tryz.prog.cellsOf 27 = 3 := by kernel_rfl
  obtain ⟨cs, rfl, hcs⟩ := okWide_struct hu hval
  obtain ⟨fuel, hf⟩ := h
  obtain ⟨xs, n, _, _, hl, hlen, hg⟩ := DataW.trod_struct hu hf
  match xs, hlen with
  | [y0, y1, y2], _ =>
    have g0 := hg 0 f0 rfl
    have g1 := hg 1 f1 rfl
    have g2 := hg 2 f2 rfl
    rw [t0, c3, o0] at g0
    rw [t1, c3, o1] at g1
    rw [t2, c3, o2] at g2
    obtain ⟨x0, e0, _, _⟩ := DataW.trod_int ht3 g0
    obtain ⟨x1, e1, _, _⟩ := DataW.trod_int ht3 g1
    obtain ⟨x2, e2, _, _⟩ := DataW.trod_int ht3 g2
    obtain ⟨l⟩ := cs
    rw [c2] at hcs
    match l, hcs with
    | [a, b, c], _ =>
      simp [Value.cells] at e0 e1 e2
      exact ⟨⟨x0, x1, x2⟩, by rw [e0, e1, e2]⟩

def powZ : List Int := [1, 10, 100, 1000, 10000, 100000, 1000000, 10000000, 100000000, 1000000000, 10000000000, 100000000000, 1000000000000, 10000000000000, 100000000000000, 1000000000000000, 10000000000000000, 100000000000000000, 1000000000000000000, 10000000000000000000]
theorem pow10_at {W : World} (h : laidMetH Tryz.prog Rows.alignRidesRow.laid W) : ∃ t fr, W.heap[2]? = some (.cells (powZ.map fun z => Value.int .u64 z).toArray t fr) := by
  have h0 : laidMet Tryz.prog [("math/bits.deBruijn32tab", Rows.laid_math_bits_deBruijn32tab), ("math/bits.deBruijn64tab", Rows.laid_math_bits_deBruijn64tab), ("internal/strconv.uint64pow10", Lib.tabData .u64 powZ)] W := h.1
  obtain ⟨ps, ⟨_, _, _, _, _, _, _, _, _, _, ⟨_, _, _, _, _, _, _, _, _, _, ⟨g, t, cs, fuel, p, q, hg, ht, hvar, hd, _, _⟩, _⟩, _⟩, _⟩ := h0
  have gP : Tryz.prog.globalNamed "internal/strconv.uint64pow10" = some 2 := by kernel_rfl
  have gT : (Tryz.prog.globals[2]?).map (·.type) = some 287 := by kernel_rfl
  obtain rfl := Option.some.inj (gP.symm.trans hg)
  obtain rfl := Option.some.inj (gT.symm.trans ht)
  have hcs := Lib.cells_of_tab (n := 20) (e := 260) (by kernel_rfl) (by kernel_rfl) (by kernel_rfl) (by kernel_rfl) hd
  unfold World.var? at hvar
  rw [gP] at hvar
  simp only [Option.bind_some] at hvar
  split at hvar
  · rename_i cs' t' fr h1
    cases hvar
    refine ⟨t', fr, ?_⟩
    rw [h1, ← hcs]
  · cases hvar

end Go.Proofs.YthjdkmibfngjbaaGreatDoor
