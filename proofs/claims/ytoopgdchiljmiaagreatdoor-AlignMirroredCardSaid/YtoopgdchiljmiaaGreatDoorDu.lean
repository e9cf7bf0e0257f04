/- Chapter 5: a slip with a count opened; two integers opened. -/
import Derived.Test.YtoopgdchiljmiaaGreatDoorDq
set_option linter.unusedVariables false
set_option linter.unusedSimpArgs false
namespace Go.Proofs.YtoopgdchiljmiaaGreatDoor
open Go.RowKit Go.Sym
open Go.ChangeShapes Go.WideShapes Go.ChangeAt

set_option maxRecDepth 20000 in
theorem open_asked {W : World} {H : Type} {enc : TypeId × Value → H} {r : Reach} {b0 : Nat} {sp : Nat → Bool} {v : Value} {d : DataW H} {p : List MemPlace} (hval : Value.okWide Tryz.prog W r b0 110 v)
    (h : DataW.Trod enc Tryz.prog W 0 sp true 110 v d p) : ∃ x y z : Int, v = .agg #[.int .i64 x, .int .i64 y, .int .i64 z] := by
  have hu : ∃ f0 f1, Tryz.prog.underlying 110 = some (.struct #[f0, f1]) ∧ f0.type = 108 ∧ f1.type = 3 ∧ f0.offset = 0 ∧ f1.offset = 2 := ⟨_, _, Tryz.underlying110, rfl, rfl, rfl, rfl⟩
  obtain ⟨f0, f1, hu, t0, t1, o0, o1⟩ := hu
  have hs : ∃ g0 g1, Tryz.prog.underlying 108 = some (.struct #[g0, g1]) ∧ g0.type = 3 ∧ g1.type = 3 ∧ g0.offset = 0 ∧ g1.offset = 1 := ⟨_, _, Tryz.underlying108, rfl, rfl, rfl, rfl⟩
  obtain ⟨g0, g1, hs, s0, s1, q0, q1⟩ := hs
  have ht3 : Tryz.prog.underlying 3 = some (.int .i64) := by kernel_rfl
  have c3 : Tryz.prog.cellsOf 3 = 1 := by kernel_rfl
  have c4 : Tryz.prog.cellsOf 108 = 2 := by kernel_rfl
  have c2 : Tryz.prog.cellsOf 110 = 3 := by kernel_rfl
  obtain ⟨cs, rfl, hcs⟩ := okWide_struct hu hval
  obtain ⟨fuel, hf⟩ := h
  obtain ⟨xs, n, _, _, hl, hlen, hg⟩ := DataW.trod_struct hu hf
  match xs, hlen with
  | [y0, y1], _ =>
    have k0 := hg 0 f0 rfl
    have k1 := hg 1 f1 rfl
    rw [t0, c4, o0] at k0
    rw [t1, c3, o1] at k1
    obtain ⟨l⟩ := cs
    rw [c2] at hcs
    match l, hcs with
    | [a, b, c], _ =>
      simp [Value.cells] at k0 k1
      obtain ⟨z, e2, _, _⟩ := DataW.trod_int ht3 k1
      obtain ⟨xs', n', _, _, hl', hlen', hg'⟩ := DataW.trod_struct hs k0
      match xs', hlen' with
      | [w0, w1], _ =>
        have j0 := hg' 0 g0 rfl
        have j1 := hg' 1 g1 rfl
        rw [s0, c3, q0] at j0
        rw [s1, c3, q1] at j1
        obtain ⟨x, e0, _, _⟩ := DataW.trod_int ht3 j0
        obtain ⟨y, e1, _, _⟩ := DataW.trod_int ht3 j1
        simp at e0 e1 e2
        exact ⟨x, y, z, by rw [e0, e1, e2]⟩

set_option maxRecDepth 20000 in
theorem open_int2 {W : World} {H : Type} {enc : TypeId × Value → H} {r : Reach} {b0 : Nat} {sp : Nat → Bool} {v : Value} {d : DataW H} {p : List MemPlace} (hval : Value.okWide Tryz.prog W r b0 165 v)
    (h : DataW.Trod enc Tryz.prog W 0 sp true 165 v d p) : ∃ x y : Int, v = .agg #[.int .i64 x, .int .i64 y] := by
  have ht : Tryz.prog.underlying 165 = some (.array 2 3) := by kernel_rfl
  have ht3 : Tryz.prog.underlying 3 = some (.int .i64) := by kernel_rfl
  have c3 : Tryz.prog.cellsOf 3 = 1 := by kernel_rfl
  have c2 : Tryz.prog.cellsOf 165 = 2 := by kernel_rfl
  simp only [Value.okWide, ht] at hval
  obtain ⟨cs, rfl, hcs, _⟩ := hval
  rw [c2] at hcs
  obtain ⟨fuel, hf⟩ := h
  cases fuel with
  | zero => simp [DataW.trod] at hf
  | succ fuel =>
    simp only [DataW.trod, ht, c2, c3] at hf
    split at hf
    · obtain ⟨xs, hm, _⟩ := Option.map_eq_some_iff.1 hf
      obtain ⟨l⟩ := cs
      match l, hcs with
      | [a, b], _ =>
        obtain ⟨_, _, f0⟩ := Lib.mapM_at hm 0 0 (by simp)
        obtain ⟨_, _, f1⟩ := Lib.mapM_at hm 1 1 (by simp)
        obtain ⟨x, e0, _, _⟩ := DataW.trod_int ht3 f0
        obtain ⟨y, e1, _, _⟩ := DataW.trod_int ht3 f1
        simp [Value.cells] at e0 e1
        exact ⟨x, y, by rw [e0, e1]⟩
    · cases hf

end Go.Proofs.YtoopgdchiljmiaaGreatDoor
