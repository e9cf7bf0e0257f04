/- Chapter 9: bytes as parameters. -/
import Derived.Test.YtccddhoeampdjaaGreatDoorOo
set_option linter.unusedVariables false
set_option linter.unusedSimpArgs false
namespace Go.Proofs.YtccddhoeampdjaaGreatDoor
open Go.RowKit Go.Sym
variable {W : World} {H : Type} {enc : TypeId × Value → H} {P : Program} {r : Reach} {b0 : Nat} {sp : Nat → Bool} {t e : TypeId} {v : Value} {d : DataW H} {p : List MemPlace}

theorem byte_range {n : Int} (h : (Lit.int .u8 n).wf = true) : 0 ≤ n ∧ n ≤ 255 := by
  simp [Lit.wf, IntKind.wrap, IntKind.min, IntKind.max, IntKind.signed, IntKind.bits] at h
  omega
theorem byC_cells (l : List Int) : (Cont.ints .u8 l).cells = (l.map (Value.int .u8)).map AV.lit := by simp [Cont.cells]
theorem open_bytes (ht : P.underlying t = some (.slice e)) (hf : flatT P 6 e = some [.int .u8]) (hc : P.cellsOf e = 1) (hval : Value.okWide P W r b0 t v) (h : DataW.Trod enc P W 0 (fun _ => true) true t v d p) : ∃ l : List Int, Rd W W.heap.size 1 v l.length (l.map (Value.int .u8)) ∧ ∀ k, 0 ≤ l.getD k 0 ∧ l.getD k 0 ≤ 255 := by
  obtain ⟨fuel, hx⟩ := h
  rw [slice_cells ht hval] at hx
  obtain ⟨R, h1, h2⟩ := open_rows ht hf hc (by decide) hx
  obtain ⟨L, rfl⟩ := rows_map (f := fun z : Int => [Value.int .u8 z]) fun r hr => by
    obtain ⟨x, l, rfl, _, hl⟩ := flat_int (h1 r hr)
    obtain rfl := flat_nil hl
    exact ⟨x, rfl⟩
  refine ⟨L, ?_, fun k => ?_⟩
  · have e : (L.map fun z : Int => [Value.int .u8 z]).flatten = L.map (Value.int .u8) := by
      clear h1 h2
      induction L with
      | nil => rfl
      | cons a L ih => simp only [List.map_cons, List.flatten_cons, ih]; rfl
    rw [List.length_map, e] at h2
    exact h2
  · rw [List.getD_eq_getElem?_getD]
    cases e : L[k]? with
    | none => exact ⟨Int.le_refl 0, show (0 : Int) ≤ 255 by omega⟩
    | some z =>
      obtain ⟨x, l, e1, e2, _⟩ := flat_int (h1 [Value.int .u8 z] (List.mem_map.2 ⟨z, List.mem_of_getElem? e, rfl⟩))
      cases e1
      exact byte_range e2
theorem open_u8x4 (hs : (∃ fs, P.underlying t = some (.struct fs)) ∨ ∃ m e, P.underlying t = some (.array m e)) (hf : flatT P 6 t = some [.int .u8, .int .u8, .int .u8, .int .u8]) (hval : Value.okWide P W r b0 t v)
    (h : DataW.Trod enc P W 0 sp true t v d p) : ∃ x y z u : Int, v = .agg #[.int .u8 x, .int .u8 y, .int .u8 z, .int .u8 u] ∧ (0 ≤ x ∧ x ≤ 255) ∧ (0 ≤ y ∧ y ≤ 255) ∧ (0 ≤ z ∧ z ≤ 255) ∧ (0 ≤ u ∧ u ≤ 255) := by
  obtain ⟨l, rfl, hl⟩ := open_flat hs hf hval h
  obtain ⟨x, l, rfl, h1, hl⟩ := flat_int hl
  obtain ⟨y, l, rfl, h2, hl⟩ := flat_int hl
  obtain ⟨z, l, rfl, h3, hl⟩ := flat_int hl
  obtain ⟨u, l, rfl, h4, hl⟩ := flat_int hl
  obtain rfl := flat_nil hl
  exact ⟨x, y, z, u, rfl, byte_range h1, byte_range h2, byte_range h3, byte_range h4⟩

end Go.Proofs.YtccddhoeampdjaaGreatDoor
