/- Chapter 5: three integers opened. -/
import Derived.Test.YtoopgdchiljmiaaGreatDoorHp
set_option linter.unusedVariables false
set_option linter.unusedSimpArgs false
namespace Go.Proofs.YtoopgdchiljmiaaGreatDoor
open Go.RowKit Go.Sym
open Go.ChangeShapes Go.WideShapes Go.ChangeAt

set_option maxRecDepth 20000 in
theorem open_shifts {W : World} {H : Type} {enc : TypeId × Value → H} {r : Reach} {b0 : Nat} {sp : Nat → Bool} {v : Value} {d : DataW H} {p : List MemPlace} (hval : Value.okWide Tryz.prog W r b0 84 v)
    (h : DataW.Trod enc Tryz.prog W 0 sp true 84 v d p) : ∃ x y z : Int, v = .agg #[.int .i64 x, .int .i64 y, .int .i64 z] := by
  have hu : ∃ f0 f1 f2, Tryz.prog.underlying 84 = some (.struct #[f0, f1, f2]) ∧ f0.type = 3 ∧ f1.type = 3 ∧ f2.type = 3 ∧ f0.offset = 0 ∧ f1.offset = 1 ∧ f2.offset = 2 := ⟨_, _, _, Tryz.underlying84, rfl, rfl, rfl, rfl, rfl, rfl⟩
  obtain ⟨f0, f1, f2, hu, t0, t1, t2, o0, o1, o2⟩ := hu
  have ht3 : Tryz.prog.underlying 3 = some (.int .i64) := by kernel_rfl
  have c3 : Tryz.prog.cellsOf 3 = 1 := by kernel_rfl
  have c2 : Tryz.prog.cellsOf 84 = 3 := by kernel_rfl
  obtain ⟨cs, rfl, hcs⟩ := okWide_struct hu hval
  obtain ⟨fuel, hf⟩ := h
  obtain ⟨xs, n, _, _, hl, hlen, hg⟩ := DataW.trod_struct hu hf
  match xs, hlen with
  | [y0, y1, y2], _ =>
    have g0 := hg 0 f0 rfl
    have g1 := hg 1 f1 rfl
    have g2 := hg 2 f2 rfl
    rw [t0, c3, o0] at g0
    rw [t1, c3, o1] at g1
    rw [t2, c3, o2] at g2
    obtain ⟨x0, e0, _, _⟩ := DataW.trod_int ht3 g0
    obtain ⟨x1, e1, _, _⟩ := DataW.trod_int ht3 g1
    obtain ⟨x2, e2, _, _⟩ := DataW.trod_int ht3 g2
    obtain ⟨l⟩ := cs
    rw [c2] at hcs
    match l, hcs with
    | [a, b, c], _ =>
      simp [Value.cells] at e0 e1 e2
      exact ⟨x0, x1, x2, by rw [e0, e1, e2]⟩

end Go.Proofs.YtoopgdchiljmiaaGreatDoor
