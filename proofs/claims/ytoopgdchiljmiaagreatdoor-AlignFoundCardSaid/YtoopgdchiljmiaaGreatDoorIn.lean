/- Chapter 5: three small integers opened. -/
import Derived.Test.YtoopgdchiljmiaaGreatDoorHp
set_option linter.unusedVariables false
set_option linter.unusedSimpArgs false
namespace Go.Proofs.YtoopgdchiljmiaaGreatDoor
open Go.RowKit Go.Sym
open Go.ChangeShapes Go.WideShapes Go.ChangeAt

theorem i8_range {n : Int} (h : (Lit.int .i8 n).wf = true) : -128 ≤ n ∧ n ≤ 127 := by
  simp [Lit.wf, IntKind.wrap, IntKind.min, IntKind.max, IntKind.signed, IntKind.bits] at h
  omega
set_option maxRecDepth 20000 in
theorem open_i8x3 {W : World} {H : Type} {enc : TypeId × Value → H} {r : Reach} {b0 : Nat} {sp : Nat → Bool} {v : Value} {d : DataW H} {p : List MemPlace} (hval : Value.okWide Tryz.prog W r b0 146 v)
    (h : DataW.Trod enc Tryz.prog W 0 sp true 146 v d p) : ∃ x y z : Int, v = .agg #[.int .i8 x, .int .i8 y, .int .i8 z] ∧ (-128 ≤ x ∧ x ≤ 127) ∧ (-128 ≤ y ∧ y ≤ 127) ∧ (-128 ≤ z ∧ z ≤ 127) := by
  have ht : Tryz.prog.underlying 146 = some (.array 3 145) := by kernel_rfl
  have ht3 : Tryz.prog.underlying 145 = some (.int .i8) := by kernel_rfl
  have c3 : Tryz.prog.cellsOf 145 = 1 := by kernel_rfl
  have c2 : Tryz.prog.cellsOf 146 = 3 := by kernel_rfl
  simp only [Value.okWide, ht] at hval
  obtain ⟨cs, rfl, hcs, _⟩ := hval
  rw [c2] at hcs
  obtain ⟨fuel, hf⟩ := h
  cases fuel with
  | zero => simp [DataW.trod] at hf
  | succ fuel =>
    simp only [DataW.trod, ht, c2, c3] at hf
    split at hf
    · obtain ⟨xs, hm, _⟩ := Option.map_eq_some_iff.1 hf
      obtain ⟨l⟩ := cs
      match l, hcs with
      | [a, b, c], _ =>
        obtain ⟨_, _, f0⟩ := Lib.mapM_at hm 0 0 (by simp)
        obtain ⟨_, _, f1⟩ := Lib.mapM_at hm 1 1 (by simp)
        obtain ⟨_, _, f2⟩ := Lib.mapM_at hm 2 2 (by simp)
        obtain ⟨x, e0, _, w0⟩ := DataW.trod_int ht3 f0
        obtain ⟨y, e1, _, w1⟩ := DataW.trod_int ht3 f1
        obtain ⟨z, e2, _, w2⟩ := DataW.trod_int ht3 f2
        simp [Value.cells] at e0 e1 e2
        exact ⟨x, y, z, by rw [e0, e1, e2], i8_range w0, i8_range w1, i8_range w2⟩
    · cases hf

end Go.Proofs.YtoopgdchiljmiaaGreatDoor
