/- Arrays of complex numbers compared. -/
import Derived.Test.YtbpffadffbgloaaGreatDoorWb
set_option linter.unusedVariables false
set_option linter.unusedSimpArgs false
namespace Go.Proofs.YtbpffadffbgloaaGreatDoor
open Go.RowKit Go.Sym

def eqCx (a b c d : Nat) : Bool := Op.floatEq .f64 a c && Op.floatEq .f64 b d
def custCx : Custom := ⟨fun o l => match o.op, l with
  | .binOp .eql t _ _ _, [.agg [.lit (.complex .f64 a0 b0), .lit (.complex .f64 a1 b1), .lit (.complex .f64 a2 b2), .lit (.complex .f64 a3 b3)], .agg [.lit (.complex .f64 c0 d0), .lit (.complex .f64 c1 d1), .lit (.complex .f64 c2 d2), .lit (.complex .f64 c3 d3)]] => match Nat.beq t 35 with
    | true => some (.lit (.bool (eqCx a0 b0 c0 d0 && (eqCx a1 b1 c1 d1 && (eqCx a2 b2 c2 d2 && eqCx a3 b3 c3 d3)))))
    | false => none
  | _, _ => none⟩
theorem eqT_cx (a0 b0 a1 b1 a2 b2 a3 b3 c0 d0 c1 d1 c2 d2 c3 d3 : Nat) :
    eqT Tryz.prog 20 35 (.agg #[.complex .f64 a0 b0, .complex .f64 a1 b1, .complex .f64 a2 b2, .complex .f64 a3 b3]) (.agg #[.complex .f64 c0 d0, .complex .f64 c1 d1, .complex .f64 c2 d2, .complex .f64 c3 d3]) =
      some (eqCx a0 b0 c0 d0 && (eqCx a1 b1 c1 d1 && (eqCx a2 b2 c2 d2 && eqCx a3 b3 c3 d3))) := by
  have hu : Tryz.prog.underlying 35 = some (.array 4 34) := by kernel_rfl
  have hc : Tryz.prog.underlying 34 = some (.complex .f64) := by kernel_rfl
  have hi : (Tryz.prog.info? 34).map (fun i => i.size) = some 1 := by kernel_rfl
  obtain ⟨i, hi1, hi2⟩ := Option.map_eq_some_iff.1 hi
  have hr : List.range 4 = [0, 1, 2, 3] := rfl
  have hag : isAggD (.complex .f64) = false := rfl
  simp only [eqT, hu, hi1, hi2, hr, eqIs, partV, hc, hag]
  have e : ∀ a b c d : Nat, (Op.floatEq FloatKind.f64 a c && Op.floatEq FloatKind.f64 b d) = eqCx a b c d := fun _ _ _ _ => rfl
  simp [e]
  cases eqCx a0 b0 c0 d0 <;> cases eqCx a1 b1 c1 d1 <;> cases eqCx a2 b2 c2 d2 <;> cases eqCx a3 b3 c3 d3 <;> rfl
theorem custCx_ok : custCx.ok Tryz.prog := by
  intro o l r h ρ w e vs hd hv
  dsimp only [custCx] at h
  split at h
  · rename_i t x y yt a0 b0 a1 b1 a2 b2 a3 b3 c0 d0 c1 d1 c2 d2 c3 d3 ho
    split at h
    · rename_i ht
      cases Nat.eq_of_beq_eq_true ht
      cases h
      simp only [AV.denL, AV.den, listO, Option.map_some, Option.some.injEq] at hd
      subst hd
      rw [ho] at hv
      simp only [Op.operands, List.map_cons, List.map_nil, List.cons.injEq, and_true] at hv
      obtain ⟨e1, e2⟩ := hv
      refine ⟨_, rfl, ?_⟩
      have hg : Tryz.prog.eqGuardType Tryz.prog.depth 35 = false := by kernel_rfl
      have hb : binV Tryz.prog .eql 35 (.agg #[.complex .f64 a0 b0, .complex .f64 a1 b1, .complex .f64 a2 b2, .complex .f64 a3 b3]) (.agg #[.complex .f64 c0 d0, .complex .f64 c1 d1, .complex .f64 c2 d2, .complex .f64 c3 d3]) = some (.bool (eqCx a0 b0 c0 d0 && (eqCx a1 b1 c1 d1 && (eqCx a2 b2 c2 d2 && eqCx a3 b3 c3 d3)))) := by
        simp only [binV, hg, eqT_cx]
      have := binV_run hb x y w
      simp only [execOp, ho, Sem.run_bind, e1, e2] at this ⊢
      rw [this]
      rfl
    · cases h
  · cases h
/-- Small integers are numbers. -/
theorem fl_self_all : (List.range 401).all (fun i => Op.floatEq .f64 (fl ((i : Int) - 200)) (fl ((i : Int) - 200))) = true := by kernel_rfl
theorem fl_self {n : Int} (h0 : -200 ≤ n) (h1 : n ≤ 200) : Op.floatEq .f64 (fl n) (fl n) = true := by
  have := List.all_eq_true.1 fl_self_all (n + 200).toNat (List.mem_range.2 (by omega))
  have e : (((n + 200).toNat : Nat) : Int) - 200 = n := by omega
  rwa [e] at this
theorem zero_self : Op.floatEq .f64 0 0 = true := by kernel_rfl

end Go.Proofs.YtbpffadffbgloaaGreatDoor
