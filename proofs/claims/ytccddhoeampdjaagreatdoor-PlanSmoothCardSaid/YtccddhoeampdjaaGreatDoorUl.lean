/- Chapter 9: arrays of eight small integers as parameters. -/
import Derived.Test.YtccddhoeampdjaaGreatDoorNl
set_option linter.unusedVariables false
set_option linter.unusedSimpArgs false
namespace Go.Proofs.YtccddhoeampdjaaGreatDoor
open Go.RowKit Go.Sym
variable {W : World} {H : Type} {enc : TypeId × Value → H} {P : Program} {r : Reach} {b0 : Nat} {sp : Nat → Bool} {t e : TypeId} {v : Value} {d : DataW H} {p : List MemPlace}

theorem small_range {n : Int} (h : (Lit.int .i8 n).wf = true) : -128 ≤ n ∧ n ≤ 127 := by
  simp [Lit.wf, IntKind.wrap, IntKind.min, IntKind.max, IntKind.signed, IntKind.bits] at h
  omega
theorem open_i8x8 (hs : (∃ fs, P.underlying t = some (.struct fs)) ∨ ∃ m e, P.underlying t = some (.array m e)) (hf : flatT P 6 t = some [.int .i8, .int .i8, .int .i8, .int .i8, .int .i8, .int .i8, .int .i8, .int .i8]) (hval : Value.okWide P W r b0 t v)
    (h : DataW.Trod enc P W 0 sp true t v d p) : ∃ A : Nat → Int, v = .agg #[.int .i8 (A 0), .int .i8 (A 1), .int .i8 (A 2), .int .i8 (A 3), .int .i8 (A 4), .int .i8 (A 5), .int .i8 (A 6), .int .i8 (A 7)] ∧ ∀ k, -128 ≤ A k ∧ A k ≤ 127 := by
  obtain ⟨l, rfl, hl⟩ := open_flat hs hf hval h
  obtain ⟨x0, l, rfl, h0, hl⟩ := flat_int hl
  obtain ⟨x1, l, rfl, h1, hl⟩ := flat_int hl
  obtain ⟨x2, l, rfl, h2, hl⟩ := flat_int hl
  obtain ⟨x3, l, rfl, h3, hl⟩ := flat_int hl
  obtain ⟨x4, l, rfl, h4, hl⟩ := flat_int hl
  obtain ⟨x5, l, rfl, h5, hl⟩ := flat_int hl
  obtain ⟨x6, l, rfl, h6, hl⟩ := flat_int hl
  obtain ⟨x7, l, rfl, h7, hl⟩ := flat_int hl
  obtain rfl := flat_nil hl
  refine ⟨fun k => match k with | 0 => x0 | 1 => x1 | 2 => x2 | 3 => x3 | 4 => x4 | 5 => x5 | 6 => x6 | 7 => x7 | _ => 0, rfl, fun k => ?_⟩
  match k with
  | 0 => exact small_range h0
  | 1 => exact small_range h1
  | 2 => exact small_range h2
  | 3 => exact small_range h3
  | 4 => exact small_range h4
  | 5 => exact small_range h5
  | 6 => exact small_range h6
  | 7 => exact small_range h7
  | _ + 8 => exact (show (-128 : Int) ≤ 0 ∧ (0 : Int) ≤ 127 from ⟨by decide, by decide⟩)

end Go.Proofs.YtccddhoeampdjaaGreatDoor
