/- Chapter 5: a run opened, a move opened. -/
import Derived.Test.YtoopgdchiljmiaaGreatDoorDs
import Derived.Test.YtoopgdchiljmiaaGreatDoorHd
import Derived.Deep.Slices
set_option linter.unusedVariables false
set_option linter.unusedSimpArgs false
namespace Go.Proofs.YtoopgdchiljmiaaGreatDoor
open Go.RowKit Go.Sym
open Go.ChangeShapes Go.WideShapes Go.ChangeAt

theorem addr_blk' (a : Addr) (i : Nat) : (a.add i).block = a.block := by cases i <;> simp [Addr.add]
theorem spans_at : ∀ (l : List (Int × Int)) (i : Nat) (h : i < l.length), (spans l)[i * 2]? = some (.int .i64 l[i].1) ∧ (spans l)[i * 2 + 1]? = some (.int .i64 l[i].2)
  | x :: l, 0, h => by simp [spans]
  | x :: l, i + 1, h => by
    obtain ⟨h1, h2⟩ := spans_at l i (by simpa using h)
    have e1 : (i + 1) * 2 = i * 2 + 2 := by omega
    constructor
    · rw [e1]; simpa [spans] using h1
    · rw [e1]; simpa [spans] using h2
theorem open_spans_rd {W : World} {H : Type} {enc : TypeId × Value → H} {fuel : Nat} {v : Value} {x : DataW H × List MemPlace} (h : DataW.trod enc Tryz.prog W 0 (fun _ => true) true fuel 67 [v] = some x) :
    ∃ (l : List (Int × Int)), Rd W W.heap.size 2 v l.length (spans l) := by
  have ht : Tryz.prog.underlying 67 = some (.slice 168) := by kernel_rfl
  have hu : ∃ f0 f1, Tryz.prog.underlying 168 = some (.struct #[f0, f1]) ∧ f0.type = 3 ∧ f1.type = 3 ∧ f0.offset = 0 ∧ f1.offset = 1 := ⟨_, _, Tryz.underlying168, rfl, rfl, rfl, rfl⟩
  obtain ⟨f0, f1, hu, t0, t1, o0, o1⟩ := hu
  have ht3 : Tryz.prog.underlying 3 = some (.int .i64) := by kernel_rfl
  have c3 : Tryz.prog.cellsOf 3 = 1 := by kernel_rfl
  have c2 : Tryz.prog.cellsOf 168 = 2 := by kernel_rfl
  rcases Deep.open_slice_pairs ht hu c2 o0 o1 (by rw [t0]; exact c3) (by rw [t1]; exact c3) h with ⟨hcs, _⟩ | ⟨a, len, cap, m, n, V0, V1, D0, D1, P0, P1, hcs, _, hl, hm, hmm, _, hx⟩
  · cases hcs; exact ⟨[], Rd.nil _ _ _⟩
  · cases hcs
    simp only [if_true] at hmm
    subst hmm
    have hint : ∀ i, i < m → V0 i = .int .i64 (intOf' (V0 i)) ∧ V1 i = .int .i64 (intOf' (V1 i)) := by
      intro i hi
      obtain ⟨_, _, h3, h4⟩ := hx i hi
      rw [t0] at h3
      rw [t1] at h4
      obtain ⟨x0, e0, _, _⟩ := DataW.trod_int ht3 h3
      obtain ⟨x1, e1, _, _⟩ := DataW.trod_int ht3 h4
      simp only [List.cons.injEq, and_true] at e0 e1
      rw [e0, e1]; exact ⟨rfl, rfl⟩
    let l : List (Int × Int) := (List.range len).map fun i => (intOf' (V0 i), intOf' (V1 i))
    have hlen : l.length = len := by simp [l]
    refine ⟨l, ?_⟩
    rw [hlen]
    refine ⟨by rw [spans_len, hlen], some a, m, rfl, hl, hm, fun h0 => ⟨a, rfl, ?_, fun j u hu => ?_⟩⟩
    · have h1 := (hx 0 (by omega)).1
      exact World.block_lt_of_cell? W _ h1
    · have hj : j < len * 2 := by
        have := (List.getElem?_eq_some_iff.1 hu).1
        rw [spans_len, hlen] at this; exact this
      have hk : j / 2 < l.length := by omega
      obtain ⟨s0, s1⟩ := spans_at l (j / 2) hk
      have hli : l[j / 2] = (intOf' (V0 (j / 2)), intOf' (V1 (j / 2))) := by simp [l]
      obtain ⟨h1, h2, _, _⟩ := hx (j / 2) (by omega)
      obtain ⟨i0, i1⟩ := hint (j / 2) (by omega)
      rcases (by omega : j = j / 2 * 2 ∨ j = j / 2 * 2 + 1) with e | e
      · rw [e] at hu ⊢
        rw [s0, hli] at hu
        rw [h1, i0]; exact hu
      · rw [e] at hu ⊢
        rw [s1, hli] at hu
        rw [h2, i1]; exact hu
theorem trod_flt {W : World} {H : Type} {enc : TypeId × Value → H} {base : Nat} {sp : Nat → Bool} {hd : Bool} {t : TypeId} {fuel : Nat} {cs : List Value} {x : DataW H × List MemPlace} (ht : Tryz.prog.underlying t = some (.float .f32))
    (h : DataW.trod enc Tryz.prog W base sp hd fuel t cs = some x) : ∃ b, cs = [.float .f32 b] := by
  cases fuel with
  | zero => simp [DataW.trod] at h
  | succ n =>
    unfold DataW.trod at h
    rw [ht] at h
    split at h <;> simp_all
def fltOf' : Value → Nat
  | .float _ n => n
  | _ => 0
/-- A slice of floating numbers that is an argument's part. -/
theorem open_floats_rd {W : World} {H : Type} {enc : TypeId × Value → H} {fuel : Nat} {v : Value} {x : DataW H × List MemPlace} (h : DataW.trod enc Tryz.prog W 0 (fun _ => true) true fuel 66 [v] = some x) :
    ∃ (l : List Nat), Rd W W.heap.size 1 v l.length (floats l) := by
  have ht : Tryz.prog.underlying 66 = some (.slice 134) := by kernel_rfl
  have ht3 : Tryz.prog.underlying 134 = some (.float .f32) := by kernel_rfl
  have c3 : Tryz.prog.cellsOf 134 = 1 := by kernel_rfl
  rcases Deep.open_slice1 ht c3 h with ⟨hcs, _⟩ | ⟨a, len, cap, m, n, V, D, Pl, hcs, _, hl, hm, hmm, _, hx⟩
  · cases hcs; exact ⟨[], Rd.nil _ _ _⟩
  · cases hcs
    simp only [if_true] at hmm
    subst hmm
    have hflt : ∀ i, i < m → V i = .float .f32 (fltOf' (V i)) := by
      intro i hi
      obtain ⟨b, e⟩ := trod_flt ht3 (hx i hi).2
      simp only [List.cons.injEq, and_true] at e
      rw [e]; rfl
    let l : List Nat := (List.range len).map fun i => fltOf' (V i)
    have hlen : l.length = len := by simp [l]
    refine ⟨l, ?_⟩
    rw [hlen]
    refine ⟨by simp [floats, hlen], some a, m, rfl, hl, hm, fun h0 => ⟨a, rfl, ?_, fun j u hu => ?_⟩⟩
    · have h1 := (hx 0 (by omega)).1
      have := World.block_lt_of_cell? W _ h1
      rwa [addr_blk'] at this
    · have hj : j < len := by
        have := (List.getElem?_eq_some_iff.1 hu).1
        simp [floats, hlen] at this; omega
      rw [(hx j (by omega)).1, hflt j (by omega)]
      simp only [floats, List.getElem?_map, l, List.getElem?_range hj, Option.map_some] at hu
      exact hu
set_option maxRecDepth 20000 in
theorem open_run {W : World} {H : Type} {enc : TypeId × Value → H} {r : Reach} {b0 : Nat} {v : Value} {d : DataW H} {p : List MemPlace} (hval : Value.okWide Tryz.prog W r b0 69 v)
    (h : DataW.Trod enc Tryz.prog W 0 (fun _ => true) true 69 v d p) : ∃ (t : Rn) (vv hv : Value), v = .agg #[.string t.name, .int .i64 t.first, vv, hv] ∧ RdR W W.heap.size vv hv t := by
  have hu : ∃ f0 f1 f2 f3, Tryz.prog.underlying 69 = some (.struct #[f0, f1, f2, f3]) ∧ f0.type = 9 ∧ f1.type = 3 ∧ f2.type = 66 ∧ f3.type = 67 ∧ f0.offset = 0 ∧ f1.offset = 1 ∧ f2.offset = 2 ∧ f3.offset = 3 := ⟨_, _, _, _, Tryz.underlying69, rfl, rfl, rfl, rfl, rfl, rfl, rfl, rfl⟩
  obtain ⟨f0, f1, f2, f3, hu, t0, t1, t2, t3, o0, o1, o2, o3⟩ := hu
  have hts : Tryz.prog.underlying 9 = some .string := by kernel_rfl
  have ht3 : Tryz.prog.underlying 3 = some (.int .i64) := by kernel_rfl
  have cs3 : Tryz.prog.cellsOf 9 = 1 := by kernel_rfl
  have c3 : Tryz.prog.cellsOf 3 = 1 := by kernel_rfl
  have c4 : Tryz.prog.cellsOf 66 = 1 := by kernel_rfl
  have c5 : Tryz.prog.cellsOf 67 = 1 := by kernel_rfl
  have c2 : Tryz.prog.cellsOf 69 = 4 := by kernel_rfl
  obtain ⟨cs, rfl, hcs⟩ := okWide_struct hu hval
  obtain ⟨fuel, hf⟩ := h
  obtain ⟨xs, n, _, _, hl, hlen, hg⟩ := DataW.trod_struct hu hf
  match xs, hlen with
  | [y0, y1, y2, y3], _ =>
    have g0 := hg 0 f0 rfl
    have g1 := hg 1 f1 rfl
    have g2 := hg 2 f2 rfl
    have g3 := hg 3 f3 rfl
    rw [t0, cs3, o0] at g0
    rw [t1, c3, o1] at g1
    rw [t2, c4, o2] at g2
    rw [t3, c5, o3] at g3
    obtain ⟨s0, e0, _, _⟩ := DataW.trod_string hts g0
    obtain ⟨x1, e1, _, _⟩ := DataW.trod_int ht3 g1
    obtain ⟨l⟩ := cs
    rw [c2] at hcs
    match l, hcs with
    | [a, b, c, d], _ =>
      simp [Value.cells] at e0 e1 g2 g3
      obtain ⟨l, h1⟩ := open_floats_rd g2
      obtain ⟨hs, h2⟩ := open_spans_rd g3
      exact ⟨⟨s0, x1, l, hs⟩, c, d, by rw [e0, e1], h1, h2⟩

set_option maxRecDepth 20000 in
theorem open_move {W : World} {H : Type} {enc : TypeId × Value → H} {r : Reach} {b0 : Nat} {sp : Nat → Bool} {v : Value} {d : DataW H} {p : List MemPlace} (hval : Value.okWide Tryz.prog W r b0 136 v)
    (h : DataW.Trod enc Tryz.prog W 0 sp true 136 v d p) : ∃ (x : Int) (y : Nat), v = .agg #[.int .i64 x, .float .f32 y] := by
  have hu : ∃ f0 f1, Tryz.prog.underlying 136 = some (.struct #[f0, f1]) ∧ f0.type = 3 ∧ f1.type = 134 ∧ f0.offset = 0 ∧ f1.offset = 1 := ⟨_, _, Tryz.underlying136, rfl, rfl, rfl, rfl⟩
  obtain ⟨f0, f1, hu, t0, t1, o0, o1⟩ := hu
  have ht3 : Tryz.prog.underlying 3 = some (.int .i64) := by kernel_rfl
  have ht4 : Tryz.prog.underlying 134 = some (.float .f32) := by kernel_rfl
  have c3 : Tryz.prog.cellsOf 3 = 1 := by kernel_rfl
  have c4 : Tryz.prog.cellsOf 134 = 1 := by kernel_rfl
  have c2 : Tryz.prog.cellsOf 136 = 2 := by kernel_rfl
  obtain ⟨cs, rfl, hcs⟩ := okWide_struct hu hval
  obtain ⟨fuel, hf⟩ := h
  obtain ⟨xs, n, _, _, hl, hlen, hg⟩ := DataW.trod_struct hu hf
  match xs, hlen with
  | [y0, y1], _ =>
    have g0 := hg 0 f0 rfl
    have g1 := hg 1 f1 rfl
    rw [t0, c3, o0] at g0
    rw [t1, c4, o1] at g1
    obtain ⟨x0, e0, _, _⟩ := DataW.trod_int ht3 g0
    obtain ⟨x1, e1⟩ := trod_flt ht4 g1
    obtain ⟨l⟩ := cs
    rw [c2] at hcs
    match l, hcs with
    | [a, b], _ =>
      simp [Value.cells] at e0 e1
      exact ⟨x0, x1, by rw [e0, e1]⟩

end Go.Proofs.YtoopgdchiljmiaaGreatDoor
