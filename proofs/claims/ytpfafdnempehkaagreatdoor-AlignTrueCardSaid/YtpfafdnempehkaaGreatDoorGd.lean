/- Chapter 5: a train opened. -/
import Derived.Test.YtpfafdnempehkaaGreatDoorDs
set_option linter.unusedVariables false
set_option linter.unusedSimpArgs false
namespace Go.Proofs.YtpfafdnempehkaaGreatDoor
open Go.RowKit Go.Sym
open Go.ChangeShapes Go.WideShapes Go.ChangeAt

theorem smC_cells {k : IntKind} (l : List Int) : (Cont.ints k l).cells = (l.map (Value.int k)).map AV.lit := by simp [Cont.cells]
theorem addr_blk (a : Addr) (i : Nat) : (a.add i).block = a.block := by cases i <;> simp [Addr.add]
theorem open_small_rd {W : World} {H : Type} {enc : TypeId × Value → H} {fuel : Nat} {v : Value} {x : DataW H × List MemPlace} {t e : TypeId} {k : IntKind} (ht : Tryz.prog.underlying t = some (.slice e)) (he : Tryz.prog.underlying e = some (.int k)) (hc : Tryz.prog.cellsOf e = 1)
    (h : DataW.trod enc Tryz.prog W 0 (fun _ => true) true fuel t [v] = some x) : ∃ (l : List Int), Rd W W.heap.size 1 v l.length (l.map (Value.int k)) ∧ ∀ n ∈ l, (Lit.int k n).wf = true := by
  rcases open_ints ht he hc h with ⟨hcs, _⟩ | ⟨a, len, cap, zs, hcs, _, hl, hm, hz, _, hcell, hwf⟩
  · cases hcs; exact ⟨[], Rd.nil _ _ _, fun n hn => by cases hn⟩
  · cases hcs
    simp only [if_true] at hz
    have hlen : (zs.take len).length = len := by rw [List.length_take]; omega
    refine ⟨zs.take len, ?_, fun n hn => hwf n (List.mem_of_mem_take hn)⟩
    rw [hlen]
    refine ⟨by simp; omega, some a, cap, rfl, hl, hm, fun h0 => ⟨a, rfl, ?_, fun j u hu => ?_⟩⟩
    · have h1 := hcell 0 (by omega)
      have := World.block_lt_of_cell? W _ h1
      rwa [addr_blk] at this
    · have hj : j < len := by
        have := (List.getElem?_eq_some_iff.1 hu).1
        simp at this; omega
      rw [hcell j (by omega)]
      simp only [List.getElem?_map, List.getElem?_take, if_pos hj] at hu
      rw [List.getD_eq_getElem?_getD]
      cases e : zs[j]? with
      | none => rw [e] at hu; cases hu
      | some z => rw [e] at hu; simpa using hu
theorem u8_wf {n : Int} (h : (Lit.int .u8 n).wf = true) : 0 ≤ n ∧ n ≤ 255 := by
  simp [Lit.wf, IntKind.wrap, IntKind.min, IntKind.max, IntKind.signed, IntKind.bits] at h
  omega
theorem u16_wf {n : Int} (h : (Lit.int .u16 n).wf = true) : 0 ≤ n ∧ n ≤ 65535 := by
  simp [Lit.wf, IntKind.wrap, IntKind.min, IntKind.max, IntKind.signed, IntKind.bits] at h
  omega
theorem i8_wf {n : Int} (h : (Lit.int .i8 n).wf = true) : -128 ≤ n ∧ n ≤ 127 := by
  simp [Lit.wf, IntKind.wrap, IntKind.min, IntKind.max, IntKind.signed, IntKind.bits] at h
  omega

set_option maxRecDepth 20000 in
theorem open_train {W : World} {H : Type} {enc : TypeId × Value → H} {r : Reach} {b0 : Nat} {v : Value} {d : DataW H} {p : List MemPlace} (hval : Value.okWide Tryz.prog W r b0 26 v)
    (h : DataW.Trod enc Tryz.prog W 0 (fun _ => true) true 26 v d p) : ∃ (g o : List Int) (u w : Value) (e y c : Int), v = .agg #[u, w, .int .u8 e, .int .u8 y, .int .u16 c] ∧ Rd W W.heap.size 1 u g.length (g.map (Value.int .u8)) ∧ Rd W W.heap.size 1 w o.length (o.map (Value.int .i8)) ∧
      (∀ x ∈ g, 0 ≤ x ∧ x ≤ 255) ∧ (∀ x ∈ o, -128 ≤ x ∧ x ≤ 127) ∧ (0 ≤ e ∧ e ≤ 255) ∧ (0 ≤ y ∧ y ≤ 255) ∧ 0 ≤ c ∧ c ≤ 65535 := by
  have hu : ∃ f0 f1 f2 f3 f4, Tryz.prog.underlying 26 = some (.struct #[f0, f1, f2, f3, f4]) ∧ f0.type = 22 ∧ f1.type = 23 ∧ f2.type = 5 ∧ f3.type = 5 ∧ f4.type = 24 ∧ f0.offset = 0 ∧ f1.offset = 1 ∧ f2.offset = 2 ∧ f3.offset = 3 ∧ f4.offset = 4 := ⟨_, _, _, _, _, Tryz.underlying26, rfl, rfl, rfl, rfl, rfl, rfl, rfl, rfl, rfl, rfl⟩
  obtain ⟨f0, f1, f2, f3, f4, hu, t0, t1, t2, t3, t4, o0, o1, o2, o3, o4⟩ := hu
  have hg : Tryz.prog.underlying 22 = some (.slice 5) := by kernel_rfl
  have ho : Tryz.prog.underlying 23 = some (.slice 38) := by kernel_rfl
  have hb : Tryz.prog.underlying 5 = some (.int .u8) := by kernel_rfl
  have hi : Tryz.prog.underlying 38 = some (.int .i8) := by kernel_rfl
  have hw : Tryz.prog.underlying 24 = some (.int .u16) := by kernel_rfl
  have cg : Tryz.prog.cellsOf 22 = 1 := by kernel_rfl
  have co : Tryz.prog.cellsOf 23 = 1 := by kernel_rfl
  have cb : Tryz.prog.cellsOf 5 = 1 := by kernel_rfl
  have ci : Tryz.prog.cellsOf 38 = 1 := by kernel_rfl
  have cw : Tryz.prog.cellsOf 24 = 1 := by kernel_rfl
  have c5 : Tryz.prog.cellsOf 26 = 5 := by kernel_rfl
  obtain ⟨cs, rfl, hcs⟩ := okWide_struct hu hval
  obtain ⟨fuel, hf⟩ := h
  obtain ⟨xs, n, _, _, hl, hlen, hgv⟩ := DataW.trod_struct hu hf
  match xs, hlen with
  | [y0, y1, y2, y3, y4], _ =>
    have k0 := hgv 0 f0 rfl
    have k1 := hgv 1 f1 rfl
    have k2 := hgv 2 f2 rfl
    have k3 := hgv 3 f3 rfl
    have k4 := hgv 4 f4 rfl
    rw [t0, cg, o0] at k0
    rw [t1, co, o1] at k1
    rw [t2, cb, o2] at k2
    rw [t3, cb, o3] at k3
    rw [t4, cw, o4] at k4
    obtain ⟨l⟩ := cs
    rw [c5] at hcs
    match l, hcs with
    | [a, b, c, d', e'], _ =>
      simp [Value.cells] at k0 k1 k2 k3 k4
      obtain ⟨g, hg1, hg2⟩ := open_small_rd hg hb cb k0
      obtain ⟨o, ho1, ho2⟩ := open_small_rd ho hi ci k1
      obtain ⟨e, e2, _, w2⟩ := DataW.trod_int hb k2
      obtain ⟨y, e3, _, w3⟩ := DataW.trod_int hb k3
      obtain ⟨z, e4, _, w4⟩ := DataW.trod_int hw k4
      simp only [List.cons.injEq, and_true] at e2 e3 e4
      exact ⟨g, o, a, b, e, y, z, by rw [e2, e3, e4], hg1, ho1, fun x hx => u8_wf (hg2 x hx), fun x hx => i8_wf (ho2 x hx), u8_wf w2, u8_wf w3, u16_wf w4⟩

end Go.Proofs.YtpfafdnempehkaaGreatDoor
