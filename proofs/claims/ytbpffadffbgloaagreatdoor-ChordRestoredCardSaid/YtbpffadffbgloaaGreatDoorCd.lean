/- What more cards share: two traces, small integers, lists opened. -/
import Derived.Test.YtbpffadffbgloaaGreatDoorCb
set_option linter.unusedVariables false
set_option linter.unusedSimpArgs false
namespace Go.Proofs.YtbpffadffbgloaaGreatDoor
open Go.RowKit Go.Sym
open Go.ChangeShapes Go.WideShapes Go.ChangeAt

theorem rd_len {w : World} {B sz n : Nat} {v : Value} {cs : List Value} (h : Rd w B sz v n cs) : n ≤ 9223372036854775807 := by
  obtain ⟨_, A, c, _, h1, h2, _⟩ := h
  unfold maxLen at h2
  omega
theorem u8_range {n : Int} (h : (Lit.int .u8 n).wf = true) : 0 ≤ n ∧ n ≤ 255 := by
  simp [Lit.wf, IntKind.wrap, IntKind.min, IntKind.max, IntKind.signed, IntKind.bits] at h
  omega

set_option maxRecDepth 20000 in
theorem trace_part {W : World} {H : Type} {enc : TypeId × Value → H} {fuel : Nat} {a b c : Value} {x : DataW H × List MemPlace} (h : DataW.trod enc Tryz.prog W 0 (fun _ => true) true fuel 25 [a, b, c] = some x) :
    ∃ t : Tr, a = .int .i64 t.first ∧ RdT W W.heap.size b c t := by
  have hu : ∃ f0 f1 f2, Tryz.prog.underlying 25 = some (.struct #[f0, f1, f2]) ∧ f0.type = 3 ∧ f1.type = 22 ∧ f2.type = 23 ∧ f0.offset = 0 ∧ f1.offset = 1 ∧ f2.offset = 2 := ⟨_, _, _, Tryz.underlying25, rfl, rfl, rfl, rfl, rfl, rfl⟩
  obtain ⟨f0, f1, f2, hu, t0, t1, t2, o0, o1, o2⟩ := hu
  have ht3 : Tryz.prog.underlying 3 = some (.int .i64) := by kernel_rfl
  have c3 : Tryz.prog.cellsOf 3 = 1 := by kernel_rfl
  have c4 : Tryz.prog.cellsOf 22 = 1 := by kernel_rfl
  have c5 : Tryz.prog.cellsOf 23 = 1 := by kernel_rfl
  obtain ⟨y0, y1, y2, n, _, hl, g0, g1, g2⟩ := Deep.trod_struct3 hu h
  rw [t0, c3, o0] at g0
  rw [t1, c4, o1] at g1
  rw [t2, c5, o2] at g2
  obtain ⟨x0, e0, _, _⟩ := DataW.trod_int ht3 g0
  simp at e0 g1 g2
  obtain ⟨l, h1⟩ := open_ints_rd g1
  obtain ⟨hs, h2⟩ := open_spans_rd g2
  exact ⟨⟨x0, l, hs⟩, e0, h1, h2⟩
set_option maxRecDepth 20000 in
theorem open_trace2 {W : World} {H : Type} {enc : TypeId × Value → H} {r : Reach} {b0 : Nat} {v : Value} {d : DataW H} {p : List MemPlace} (hval : Value.okWide Tryz.prog W r b0 54 v)
    (h : DataW.Trod enc Tryz.prog W 0 (fun _ => true) true 54 v d p) : ∃ (s t : Tr) (u w u' w' : Value), v = .agg #[.int .i64 s.first, u, w, .int .i64 t.first, u', w'] ∧ RdT W W.heap.size u w s ∧ RdT W W.heap.size u' w' t := by
  have ht : Tryz.prog.underlying 54 = some (.array 2 25) := by kernel_rfl
  have c3 : Tryz.prog.cellsOf 25 = 3 := by kernel_rfl
  have c2 : Tryz.prog.cellsOf 54 = 6 := by kernel_rfl
  simp only [Value.okWide, ht] at hval
  obtain ⟨cs, rfl, hcs, _⟩ := hval
  rw [c2] at hcs
  obtain ⟨fuel, hf⟩ := h
  cases fuel with
  | zero => simp [DataW.trod] at hf
  | succ fuel =>
    simp only [DataW.trod, ht, c2, c3] at hf
    split at hf
    · obtain ⟨xs, hm, _⟩ := Option.map_eq_some_iff.1 hf
      obtain ⟨l⟩ := cs
      match l, hcs with
      | [a, b, c, d, e, f], _ =>
        obtain ⟨_, _, f0⟩ := Lib.mapM_at hm 0 0 (by simp)
        obtain ⟨_, _, f1⟩ := Lib.mapM_at hm 1 1 (by simp)
        simp [Value.cells] at f0 f1
        obtain ⟨s, e0, h0⟩ := trace_part f0
        obtain ⟨t, e1, h1⟩ := trace_part f1
        exact ⟨s, t, b, c, e, f, by rw [e0, e1], h0, h1⟩
    · cases hf

end Go.Proofs.YtbpffadffbgloaaGreatDoor
