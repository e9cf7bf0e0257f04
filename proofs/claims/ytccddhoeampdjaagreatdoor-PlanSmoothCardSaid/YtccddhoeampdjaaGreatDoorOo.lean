/- Chapter 9: an office opened. -/
import Derived.Test.YtccddhoeampdjaaGreatDoorPo
import Derived.Test.YtccddhoeampdjaaGreatDoorOa
set_option linter.unusedVariables false
set_option linter.unusedSimpArgs false
namespace Go.Proofs.YtccddhoeampdjaaGreatDoor
open Go.RowKit Go.Sym
open Go.ChangeShapes Go.WideShapes Go.ChangeAt

set_option maxRecDepth 20000 in
theorem open_secs {W : World} {H : Type} {enc : TypeId × Value → H} {fuel : Nat} {v : Value} {x : DataW H × List MemPlace} (h : DataW.trod enc Tryz.prog W 0 (fun _ => true) true fuel 22 [v] = some x) : ∃ l : List Sec, Rd W W.heap.size 5 v l.length (l.flatMap secV) := by
  obtain ⟨R, h1, h2⟩ := open_rows (P := Tryz.prog) (k := 4) (ks := [.str, .int .i64, .int .i64, .int .i64, .int .i64]) Tryz.underlying22 (by kernel_rfl) (by kernel_rfl) (by decide) h
  obtain ⟨L, rfl⟩ := rows_map (f := secV) fun r hr => by
    obtain ⟨a, l, rfl, _, hl⟩ := flat_str (h1 r hr)
    obtain ⟨b, l, rfl, _, hl⟩ := flat_int hl
    obtain ⟨c, l, rfl, _, hl⟩ := flat_int hl
    obtain ⟨d, l, rfl, _, hl⟩ := flat_int hl
    obtain ⟨e, l, rfl, _, hl⟩ := flat_int hl
    obtain rfl := flat_nil hl
    exact ⟨⟨a, b, c, d, e⟩, rfl⟩
  rw [List.length_map, flatten_map] at h2
  exact ⟨L, h2⟩
set_option maxRecDepth 20000 in
theorem open_shfs {W : World} {H : Type} {enc : TypeId × Value → H} {fuel : Nat} {v : Value} {x : DataW H × List MemPlace} (h : DataW.trod enc Tryz.prog W 0 (fun _ => true) true fuel 23 [v] = some x) : ∃ l : List Shf, Rd W W.heap.size 4 v l.length (l.flatMap shfV) := by
  obtain ⟨R, h1, h2⟩ := open_rows (P := Tryz.prog) (k := 4) (ks := [.int .i64, .int .i64, .int .i64, .int .i64]) Tryz.underlying23 (by kernel_rfl) (by kernel_rfl) (by decide) h
  obtain ⟨L, rfl⟩ := rows_map (f := shfV) fun r hr => by
    obtain ⟨b, l, rfl, _, hl⟩ := flat_int (h1 r hr)
    obtain ⟨c, l, rfl, _, hl⟩ := flat_int hl
    obtain ⟨d, l, rfl, _, hl⟩ := flat_int hl
    obtain ⟨e, l, rfl, _, hl⟩ := flat_int hl
    obtain rfl := flat_nil hl
    exact ⟨⟨b, c, d, e⟩, rfl⟩
  rw [List.length_map, flatten_map] at h2
  exact ⟨L, h2⟩
set_option maxRecDepth 20000 in
theorem open_office {W : World} {H : Type} {enc : TypeId × Value → H} {r : Reach} {b0 : Nat} {v : Value} {d : DataW H} {p : List MemPlace} (hval : Value.okWide Tryz.prog W r b0 25 v)
    (h : DataW.Trod enc Tryz.prog W 0 (fun _ => true) true 25 v d p) : ∃ (S : List Sec) (T : List Shf) (u w : Value), v = .agg #[u, w] ∧ Rd W W.heap.size 5 u S.length (S.flatMap secV) ∧ Rd W W.heap.size 4 w T.length (T.flatMap shfV) := by
  have hu : ∃ f0 f1, Tryz.prog.underlying 25 = some (.struct #[f0, f1]) ∧ f0.type = 22 ∧ f1.type = 23 ∧ f0.offset = 0 ∧ f1.offset = 1 := ⟨_, _, Tryz.underlying25, rfl, rfl, rfl, rfl⟩
  obtain ⟨f0, f1, hu, t0, t1, o0, o1⟩ := hu
  have c4 : Tryz.prog.cellsOf 22 = 1 := by kernel_rfl
  have c5 : Tryz.prog.cellsOf 23 = 1 := by kernel_rfl
  have c2 : Tryz.prog.cellsOf 25 = 2 := by kernel_rfl
  obtain ⟨cs, rfl, hcs⟩ := okWide_struct hu hval
  obtain ⟨fuel, hf⟩ := h
  obtain ⟨xs, n, _, _, hl, hlen, hg⟩ := DataW.trod_struct hu hf
  match xs, hlen with
  | [y0, y1], _ =>
    have g0 := hg 0 f0 rfl
    have g1 := hg 1 f1 rfl
    rw [t0, c4, o0] at g0
    rw [t1, c5, o1] at g1
    obtain ⟨l⟩ := cs
    rw [c2] at hcs
    match l, hcs with
    | [a, b], _ =>
      simp [Value.cells] at g0 g1
      obtain ⟨m, h1⟩ := open_secs g0
      obtain ⟨s, h2⟩ := open_shfs g1
      exact ⟨m, s, a, b, rfl, h1, h2⟩

end Go.Proofs.YtccddhoeampdjaaGreatDoor
