/- The runner at this program. -/
import Derived.Test.YtbpffadffbgloaaGreatDoorQ
import Derived.Test.YtbpffadffbgloaaGreatDoorSymV
set_option linter.unusedVariables false
set_option linter.unusedSimpArgs false
namespace Go.Proofs.YtbpffadffbgloaaGreatDoor
open Go.RowKit Go.Sym

theorem knownC_ok {f : FuncId} {args : List AV} {gl : List (Nat × Nat)} {H : List (Nat × Chunk)} {I : Inst} (h : knownC f args gl H = some I) : I.ok Tryz.prog := by
  unfold knownC at h
  split at h
  · exact known88_ok h
  · split at h
    · exact known100_ok h
    · split at h
      · exact known106_ok h
      · split at h
        · exact known107_ok h
        · cases h
noncomputable def stat : RStat := ⟨Tryz.prog, tys, fun f => Nat.beq f 78, knownC, custV Tryz.prog⟩
theorem stat_ok : stat.ok := ⟨tys_ok, mixed, fun _ _ gl _ _ h => knownC_ok (gl := gl) h, custV_ok _⟩
/-- A call that the runner runs. -/
theorem ran {f : FuncId} {args : List AV} {gl : List (Nat × Nat)} {H : List (Nat × Chunk)} {I : Inst} (n : Nat) (h : callI stat (exec stat n) f args gl H = some I) : I.ok Tryz.prog := callI_ok stat_ok (exec_sound stat_ok n) _ _ _ _ _ h

end Go.Proofs.YtbpffadffbgloaaGreatDoor
