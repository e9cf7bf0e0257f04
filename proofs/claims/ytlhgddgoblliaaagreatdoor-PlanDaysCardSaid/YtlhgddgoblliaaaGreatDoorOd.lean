/- Chapter 9: plans: the program's sums and checks. -/
import Derived.Test.YtlhgddgoblliaaaGreatDoorOa
set_option linter.unusedVariables false
set_option linter.unusedSimpArgs false
namespace Go.Proofs.YtlhgddgoblliaaaGreatDoor
open Go.RowKit Go.Sym

/-- What a valid office holds. -/
structure OffB (S : List Sec) (T : List Shf) : Prop where
  lS : S.length ≤ 7
  lT : T.length ≤ 5
  wk : ∀ k, 0 ≤ (S.getD k secD).wk ∧ (S.getD k secD).wk ≤ 1000
  sbl : ∀ k, 0 ≤ (S.getD k secD).bl ∧ (S.getD k secD).bl ≤ 10000
  vl : ∀ k, 0 ≤ (S.getD k secD).vl ∧ (S.getD k secD).vl ≤ 1000000
  wk1 : ∀ k, k < S.length → 1 ≤ (S.getD k secD).wk
  hr : ∀ k, 0 ≤ (T.getD k shfD).hr ∧ (T.getD k shfD).hr ≤ 1000
  tbl : ∀ k, 0 ≤ (T.getD k shfD).bl ∧ (T.getD k shfD).bl ≤ 10000
  rt : ∀ k, 0 ≤ (T.getD k shfD).rt ∧ (T.getD k shfD).rt ≤ 1000
  day : ∀ k, 0 ≤ (T.getD k shfD).day ∧ (T.getD k shfD).day ≤ 100000
  up : ∀ k, k + 1 < T.length → (T.getD k shfD).day ≤ (T.getD (k + 1) shfD).day
end Go.Proofs.YtlhgddgoblliaaaGreatDoor
