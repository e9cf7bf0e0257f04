/- A list of integers opened. -/
import Derived.Test.YtbpffadffbgloaaDoorCb
set_option linter.unusedVariables false
set_option linter.unusedSimpArgs false
namespace Go.Proofs.YtbpffadffbgloaaDoor
open Go.RowKit Go.Sym
open Go.ChangeShapes Go.WideShapes Go.ChangeAt

set_option maxRecDepth 20000 in
theorem open_intsA {W : World} {H : Type} {enc : TypeId × Value → H} {r : Reach} {b0 : Nat} {v : Value} {d : DataW H} {p : List MemPlace} (hval : Value.okWide Tryd.prog W r b0 24 v)
    (h : DataW.Trod enc Tryd.prog W 0 (fun _ => true) true 24 v d p) : ∃ l : List Int, Rd W W.heap.size 1 v l.length (Go.Proofs.YtbpffadffbgloaaDoor.ints l) := by
  have ht : Tryd.prog.underlying 24 = some (.slice 3) := by kernel_rfl
  simp only [Value.okWide, ht] at hval
  obtain ⟨fuel, hf⟩ := h
  have hc : v.cells.toList = [v] := by
    cases v with
    | agg cs => simp [Cell.okWide, Cell.ok, ht] at hval
    | _ => rfl
  rw [hc] at hf
  exact open_ints_rd hf

end Go.Proofs.YtbpffadffbgloaaDoor
