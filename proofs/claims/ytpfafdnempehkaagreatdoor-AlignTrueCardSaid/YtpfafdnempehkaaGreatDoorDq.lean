/- Chapter 5: costs and pairs opened, the table of powers. -/
import Derived.Test.YtpfafdnempehkaaGreatDoorDp
set_option linter.unusedVariables false
set_option linter.unusedSimpArgs false
namespace Go.Proofs.YtpfafdnempehkaaGreatDoor
open Go.RowKit Go.Sym
open Go.ChangeShapes Go.WideShapes Go.ChangeAt

set_option maxRecDepth 20000 in
theorem open_pairsA {W : World} {H : Type} {enc : TypeId × Value → H} {r : Reach} {b0 : Nat} {v : Value} {d : DataW H} {p : List MemPlace} (hval : Value.okWide Tryz.prog W r b0 35 v)
    (h : DataW.Trod enc Tryz.prog W 0 (fun _ => true) true 35 v d p) : ∃ l : List (Int × Int), Rd W W.heap.size 2 v l.length (prs l) := by
  have ht : Tryz.prog.underlying 35 = some (.slice 42) := by kernel_rfl
  simp only [Value.okWide, ht] at hval
  obtain ⟨fuel, hf⟩ := h
  have hc : v.cells.toList = [v] := by
    cases v with
    | agg cs => simp [Cell.okWide, Cell.ok, ht] at hval
    | _ => rfl
  rw [hc] at hf
  exact open_pairs_rd hf

def powZ : List Int := [1, 10, 100, 1000, 10000, 100000, 1000000, 10000000, 100000000, 1000000000, 10000000000, 100000000000, 1000000000000, 10000000000000, 100000000000000, 1000000000000000, 10000000000000000, 100000000000000000, 1000000000000000000, 10000000000000000000]
theorem pow10_at {W : World} (h : laidMetH Tryz.prog Rows.alignTrueRow.laid W) : ∃ t fr, W.heap[2]? = some (.cells (powZ.map fun z => Value.int .u64 z).toArray t fr) := by
  have h0 : laidMet Tryz.prog [("math/bits.deBruijn32tab", Rows.laid_math_bits_deBruijn32tab), ("math/bits.deBruijn64tab", Rows.laid_math_bits_deBruijn64tab), ("internal/strconv.uint64pow10", Lib.tabData .u64 powZ)] W := h.1
  obtain ⟨ps, ⟨_, _, _, _, _, _, _, _, _, _, ⟨_, _, _, _, _, _, _, _, _, _, ⟨g, t, cs, fuel, p, q, hg, ht, hvar, hd, _, _⟩, _⟩, _⟩, _⟩ := h0
  have gP : Tryz.prog.globalNamed "internal/strconv.uint64pow10" = some 2 := by kernel_rfl
  have gT : (Tryz.prog.globals[2]?).map (·.type) = some 246 := by kernel_rfl
  obtain rfl := Option.some.inj (gP.symm.trans hg)
  obtain rfl := Option.some.inj (gT.symm.trans ht)
  have hcs := Lib.cells_of_tab (n := 20) (e := 216) (by kernel_rfl) (by kernel_rfl) (by kernel_rfl) (by kernel_rfl) hd
  unfold World.var? at hvar
  rw [gP] at hvar
  simp only [Option.bind_some] at hvar
  split at hvar
  · rename_i cs' t' fr h1
    cases hvar
    refine ⟨t', fr, ?_⟩
    rw [h1, ← hcs]
  · cases hvar

end Go.Proofs.YtpfafdnempehkaaGreatDoor
