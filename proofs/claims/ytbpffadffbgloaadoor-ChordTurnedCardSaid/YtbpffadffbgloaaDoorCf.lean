/- Two small integers opened. -/
import Derived.Test.YtbpffadffbgloaaDoorCd
set_option linter.unusedVariables false
set_option linter.unusedSimpArgs false
namespace Go.Proofs.YtbpffadffbgloaaDoor
open Go.RowKit Go.Sym
open Go.ChangeShapes Go.WideShapes Go.ChangeAt

theorem i8_range {n : Int} (h : (Lit.int .i8 n).wf = true) : -128 ≤ n ∧ n ≤ 127 := by
  simp [Lit.wf, IntKind.wrap, IntKind.min, IntKind.max, IntKind.signed, IntKind.bits] at h
  omega
set_option maxRecDepth 20000 in
theorem open_i8x2 {W : World} {H : Type} {enc : TypeId × Value → H} {r : Reach} {b0 : Nat} {sp : Nat → Bool} {v : Value} {d : DataW H} {p : List MemPlace} (hval : Value.okWide Tryd.prog W r b0 102 v)
    (h : DataW.Trod enc Tryd.prog W 0 sp true 102 v d p) : ∃ x y : Int, v = .agg #[.int .i8 x, .int .i8 y] ∧ (-128 ≤ x ∧ x ≤ 127) ∧ (-128 ≤ y ∧ y ≤ 127) := by
  have ht : Tryd.prog.underlying 102 = some (.array 2 86) := by kernel_rfl
  have ht3 : Tryd.prog.underlying 86 = some (.int .i8) := by kernel_rfl
  have c3 : Tryd.prog.cellsOf 86 = 1 := by kernel_rfl
  have c2 : Tryd.prog.cellsOf 102 = 2 := by kernel_rfl
  simp only [Value.okWide, ht] at hval
  obtain ⟨cs, rfl, hcs, _⟩ := hval
  rw [c2] at hcs
  obtain ⟨fuel, hf⟩ := h
  cases fuel with
  | zero => simp [DataW.trod] at hf
  | succ fuel =>
    simp only [DataW.trod, ht, c2, c3] at hf
    split at hf
    · obtain ⟨xs, hm, _⟩ := Option.map_eq_some_iff.1 hf
      obtain ⟨l⟩ := cs
      match l, hcs with
      | [a, b], _ =>
        obtain ⟨_, _, f0⟩ := Lib.mapM_at hm 0 0 (by simp)
        obtain ⟨_, _, f1⟩ := Lib.mapM_at hm 1 1 (by simp)
        obtain ⟨x, e0, _, w0⟩ := DataW.trod_int ht3 f0
        obtain ⟨y, e1, _, w1⟩ := DataW.trod_int ht3 f1
        simp [Value.cells] at e0 e1
        exact ⟨x, y, by rw [e0, e1], i8_range w0, i8_range w1⟩
    · cases hf

end Go.Proofs.YtbpffadffbgloaaDoor
