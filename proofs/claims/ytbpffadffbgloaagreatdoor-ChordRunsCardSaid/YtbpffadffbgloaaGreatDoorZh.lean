/- An argument that is a run, opened. -/
import Derived.Test.YtbpffadffbgloaaGreatDoorCa
import Derived.Deep.Slices
import Derived.Test.YtbpffadffbgloaaGreatDoorZc
set_option linter.unusedVariables false
set_option linter.unusedSimpArgs false
namespace Go.Proofs.YtbpffadffbgloaaGreatDoor
open Go.RowKit Go.Sym
open Go.ChangeShapes Go.WideShapes Go.ChangeAt

theorem trod_flt {W : World} {H : Type} {enc : TypeId × Value → H} {base : Nat} {sp : Nat → Bool} {hd : Bool} {t : TypeId} {fuel : Nat} {cs : List Value} {x : DataW H × List MemPlace} (ht : Tryz.prog.underlying t = some (.float .f32))
    (h : DataW.trod enc Tryz.prog W base sp hd fuel t cs = some x) : ∃ b, cs = [.float .f32 b] := by
  cases fuel with
  | zero => simp [DataW.trod] at h
  | succ n =>
    unfold DataW.trod at h
    rw [ht] at h
    split at h <;> simp_all
def fltOf' : Value → Nat
  | .float _ n => n
  | _ => 0
/-- A slice of floating numbers that is an argument's part. -/
theorem open_floats_rd {W : World} {H : Type} {enc : TypeId × Value → H} {fuel : Nat} {v : Value} {x : DataW H × List MemPlace} (h : DataW.trod enc Tryz.prog W 0 (fun _ => true) true fuel 66 [v] = some x) :
    ∃ (l : List Nat), Rd W W.heap.size 1 v l.length (floats l) := by
  have ht : Tryz.prog.underlying 66 = some (.slice 147) := by kernel_rfl
  have ht3 : Tryz.prog.underlying 147 = some (.float .f32) := by kernel_rfl
  have c3 : Tryz.prog.cellsOf 147 = 1 := by kernel_rfl
  rcases Deep.open_slice1 ht c3 h with ⟨hcs, _⟩ | ⟨a, len, cap, m, n, V, D, Pl, hcs, _, hl, hm, hmm, _, hx⟩
  · cases hcs; exact ⟨[], Rd.nil _ _ _⟩
  · cases hcs
    simp only [if_true] at hmm
    subst hmm
    have hflt : ∀ i, i < m → V i = .float .f32 (fltOf' (V i)) := by
      intro i hi
      obtain ⟨b, e⟩ := trod_flt ht3 (hx i hi).2
      simp only [List.cons.injEq, and_true] at e
      rw [e]; rfl
    let l : List Nat := (List.range len).map fun i => fltOf' (V i)
    have hlen : l.length = len := by simp [l]
    refine ⟨l, ?_⟩
    rw [hlen]
    refine ⟨by simp [floats, hlen], some a, m, rfl, hl, hm, fun h0 => ⟨a, rfl, ?_, fun j u hu => ?_⟩⟩
    · have h1 := (hx 0 (by omega)).1
      have := World.block_lt_of_cell? W _ h1
      rwa [addr_block'] at this
    · have hj : j < len := by
        have := (List.getElem?_eq_some_iff.1 hu).1
        simp [floats, hlen] at this; omega
      rw [(hx j (by omega)).1, hflt j (by omega)]
      simp only [floats, List.getElem?_map, l, List.getElem?_range hj, Option.map_some] at hu
      exact hu
set_option maxRecDepth 20000 in
theorem open_run {W : World} {H : Type} {enc : TypeId × Value → H} {r : Reach} {b0 : Nat} {v : Value} {d : DataW H} {p : List MemPlace} (hval : Value.okWide Tryz.prog W r b0 68 v)
    (h : DataW.Trod enc Tryz.prog W 0 (fun _ => true) true 68 v d p) : ∃ (t : Rn) (vv hv : Value), v = .agg #[.string t.name, .int .i64 t.first, vv, hv] ∧ RdR W W.heap.size vv hv t := by
  have hu : ∃ f0 f1 f2 f3, Tryz.prog.underlying 68 = some (.struct #[f0, f1, f2, f3]) ∧ f0.type = 9 ∧ f1.type = 3 ∧ f2.type = 66 ∧ f3.type = 23 ∧ f0.offset = 0 ∧ f1.offset = 1 ∧ f2.offset = 2 ∧ f3.offset = 3 := ⟨_, _, _, _, Tryz.underlying68, rfl, rfl, rfl, rfl, rfl, rfl, rfl, rfl⟩
  obtain ⟨f0, f1, f2, f3, hu, t0, t1, t2, t3, o0, o1, o2, o3⟩ := hu
  have hts : Tryz.prog.underlying 9 = some .string := by kernel_rfl
  have ht3 : Tryz.prog.underlying 3 = some (.int .i64) := by kernel_rfl
  have cs3 : Tryz.prog.cellsOf 9 = 1 := by kernel_rfl
  have c3 : Tryz.prog.cellsOf 3 = 1 := by kernel_rfl
  have c4 : Tryz.prog.cellsOf 66 = 1 := by kernel_rfl
  have c5 : Tryz.prog.cellsOf 23 = 1 := by kernel_rfl
  have c2 : Tryz.prog.cellsOf 68 = 4 := by kernel_rfl
  obtain ⟨cs, rfl, hcs⟩ := okWide_struct hu hval
  obtain ⟨fuel, hf⟩ := h
  obtain ⟨xs, n, _, _, hl, hlen, hg⟩ := DataW.trod_struct hu hf
  match xs, hlen with
  | [y0, y1, y2, y3], _ =>
    have g0 := hg 0 f0 rfl
    have g1 := hg 1 f1 rfl
    have g2 := hg 2 f2 rfl
    have g3 := hg 3 f3 rfl
    rw [t0, cs3, o0] at g0
    rw [t1, c3, o1] at g1
    rw [t2, c4, o2] at g2
    rw [t3, c5, o3] at g3
    obtain ⟨s0, e0, _, _⟩ := DataW.trod_string hts g0
    obtain ⟨x1, e1, _, _⟩ := DataW.trod_int ht3 g1
    obtain ⟨l⟩ := cs
    rw [c2] at hcs
    match l, hcs with
    | [a, b, c, d], _ =>
      simp [Value.cells] at e0 e1 g2 g3
      obtain ⟨l, h1⟩ := open_floats_rd g2
      obtain ⟨hs, h2⟩ := open_spans_rd g3
      exact ⟨⟨s0, x1, l, hs⟩, c, d, by rw [e0, e1], h1, h2⟩

end Go.Proofs.YtbpffadffbgloaaGreatDoor
