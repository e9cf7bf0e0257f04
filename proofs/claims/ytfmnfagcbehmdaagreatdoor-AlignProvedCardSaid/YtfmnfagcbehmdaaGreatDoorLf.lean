/- Chapter 5: an offer that is an argument, opened: pairs and a table. -/
import Derived.Test.YtfmnfagcbehmdaaGreatDoorKl
set_option linter.unusedVariables false
set_option linter.unusedSimpArgs false
namespace Go.Proofs.YtfmnfagcbehmdaaGreatDoor
open Go.RowKit Go.Sym
open Go.ChangeShapes Go.WideShapes Go.ChangeAt

set_option maxRecDepth 20000 in
theorem open_offer {W : World} {H : Type} {enc : TypeId × Value → H} {r : Reach} {b0 : Nat} {v : Value} {d : DataW H} {p : List MemPlace} (hval : Value.okWide Tryz.prog W r b0 67 v)
    (h : DataW.Trod enc Tryz.prog W 0 (fun _ => true) true 67 v d p) : ∃ (l : List (Int × Int)) (n : Nat) (R : Nat → List Int) (vl vt fk : Value), v = .agg #[vl, vt] ∧ Rd W W.heap.size 2 vl l.length (prs l) ∧ TabRd W vt fk n R := by
  have hu : ∃ f0 f1, Tryz.prog.underlying 67 = some (.struct #[f0, f1]) ∧ f0.type = 46 ∧ f1.type = 52 ∧ f0.offset = 0 ∧ f1.offset = 1 := ⟨_, _, Tryz.underlying67, rfl, rfl, rfl, rfl⟩
  obtain ⟨f0, f1, hu, t0, t1, o0, o1⟩ := hu
  have c4 : Tryz.prog.cellsOf 46 = 1 := by kernel_rfl
  have c5 : Tryz.prog.cellsOf 52 = 1 := by kernel_rfl
  have c2 : Tryz.prog.cellsOf 67 = 2 := by kernel_rfl
  obtain ⟨cs, rfl, hcs⟩ := okWide_struct hu hval
  obtain ⟨fuel, hf⟩ := h
  obtain ⟨xs, n, _, _, hl, hlen, hg⟩ := DataW.trod_struct hu hf
  match xs, hlen with
  | [y0, y1], _ =>
    have g0 := hg 0 f0 rfl
    have g1 := hg 1 f1 rfl
    rw [t0, c4, o0] at g0
    rw [t1, c5, o1] at g1
    obtain ⟨l⟩ := cs
    rw [c2] at hcs
    match l, hcs with
    | [a, b], _ =>
      simp [Value.cells] at g0 g1
      obtain ⟨m, h1⟩ := open_pairs_rd g0
      obtain ⟨n, R, fk, h2⟩ := open_table_rd g1
      exact ⟨m, n, R, a, b, fk, rfl, h1, h2⟩

end Go.Proofs.YtfmnfagcbehmdaaGreatDoor
