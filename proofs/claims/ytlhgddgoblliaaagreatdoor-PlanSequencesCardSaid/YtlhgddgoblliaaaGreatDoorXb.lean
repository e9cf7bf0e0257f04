/- Chapter 9: temperatures, a band and days, opened. -/
import Derived.Test.YtlhgddgoblliaaaGreatDoorPo
set_option linter.unusedVariables false
set_option linter.unusedSimpArgs false
namespace Go.Proofs.YtlhgddgoblliaaaGreatDoor
open Go.RowKit Go.Sym
open Go.ChangeShapes Go.WideShapes Go.ChangeAt

theorem open_ints0 {W : World} {H : Type} {enc : TypeId × Value → H} {P : Program} {t e : TypeId} {fuel : Nat} {v : Value} {x : DataW H × List MemPlace} (ht : P.underlying t = some (.slice e)) (hf : flatT P 6 e = some [.int .i64]) (hc : P.cellsOf e = 1) (h : DataW.trod enc P W 0 (fun _ => true) true fuel t [v] = some x) : ∃ l : List Int, Rd W W.heap.size 1 v l.length (l.map (Value.int .i64)) := by
  obtain ⟨R, h1, h2⟩ := open_rows ht hf hc (by decide) h
  obtain ⟨L, rfl⟩ := rows_map (f := fun z : Int => [Value.int .i64 z]) fun r hr => by
    obtain ⟨x, l, rfl, _, hl⟩ := flat_int (h1 r hr)
    obtain rfl := flat_nil hl
    exact ⟨x, rfl⟩
  refine ⟨L, ?_⟩
  have e : (L.map fun z : Int => [Value.int .i64 z]).flatten = L.map (Value.int .i64) := by
    clear h1 h2
    induction L with
    | nil => rfl
    | cons a L ih => simp only [List.map_cons, List.flatten_cons, ih]; rfl
  rw [List.length_map, e] at h2
  exact h2
set_option maxRecDepth 20000 in
theorem open_days {W : World} {H : Type} {enc : TypeId × Value → H} {r : Reach} {b0 : Nat} {v : Value} {d : DataW H} {p : List MemPlace} (hval : Value.okWide Tryz.prog W r b0 27 v)
    (h : DataW.Trod enc Tryz.prog W 0 (fun _ => true) true 27 v d p) : ∃ (K : List Int) (lo hi : Int) (D : List Int) (u w : Value), v = .agg #[u, .int .i64 lo, .int .i64 hi, w] ∧ Rd W W.heap.size 1 u K.length (K.map (Value.int .i64)) ∧ Rd W W.heap.size 1 w D.length (D.map (Value.int .i64)) := by
  have hu : ∃ f0 f1 f2, Tryz.prog.underlying 27 = some (.struct #[f0, f1, f2]) ∧ f0.type = 23 ∧ f1.type = 25 ∧ f2.type = 23 ∧ f0.offset = 0 ∧ f1.offset = 1 ∧ f2.offset = 3 := ⟨_, _, _, Tryz.underlying27, rfl, rfl, rfl, rfl, rfl, rfl⟩
  obtain ⟨f0, f1, f2, hu, t0, t1, t2, o0, o1, o2⟩ := hu
  have c0 : Tryz.prog.cellsOf 23 = 1 := by kernel_rfl
  have c1 : Tryz.prog.cellsOf 25 = 2 := by kernel_rfl
  have c4 : Tryz.prog.cellsOf 27 = 4 := by kernel_rfl
  obtain ⟨cs, rfl, hcs⟩ := okWide_struct hu hval
  obtain ⟨fuel, hf⟩ := h
  obtain ⟨xs, n, _, _, hl, hlen, hg⟩ := DataW.trod_struct hu hf
  match xs, hlen with
  | [y0, y1, y2], _ =>
    have g0 := hg 0 f0 rfl
    have g1 := hg 1 f1 rfl
    have g2 := hg 2 f2 rfl
    rw [t0, c0, o0] at g0
    rw [t1, c1, o1] at g1
    rw [t2, c0, o2] at g2
    obtain ⟨l⟩ := cs
    rw [c4] at hcs
    match l, hcs with
    | [a, b, c, e], _ =>
      simp [Value.cells] at g0 g1 g2
      obtain ⟨K, h1⟩ := open_ints0 (P := Tryz.prog) Tryz.underlying23 (by kernel_rfl) (by kernel_rfl) g0
      obtain ⟨D, h2⟩ := open_ints0 (P := Tryz.prog) Tryz.underlying23 (by kernel_rfl) (by kernel_rfl) g2
      have h3 := trod_flat 6 _ [.int .i64, .int .i64] _ _ _ (by kernel_rfl) g1
      obtain ⟨x, l, e1, _, h3⟩ := flat_int h3
      obtain ⟨y, l, e2, _, h3⟩ := flat_int h3
      obtain rfl := flat_nil h3
      subst e2
      simp only [List.cons.injEq, and_true] at e1
      obtain ⟨rfl, rfl⟩ := e1
      exact ⟨K, x, y, D, a, e, rfl, h1, h2⟩

end Go.Proofs.YtlhgddgoblliaaaGreatDoor
