/- Chapter 9: quotients compared. -/
import Derived.Test.YtccddhoeampdjaaGreatDoorQk
set_option linter.unusedVariables false
set_option linter.unusedSimpArgs false
namespace Go.Proofs.YtccddhoeampdjaaGreatDoor
open Go.RowKit Go.Sym

theorem custRat_eqT (a0 c0 : Int) (a1 c1 : Int) : eqT Tryz.prog 20 82 (.agg #[.int .i64 a0, .int .i64 a1]) (.agg #[.int .i64 c0, .int .i64 c1]) = some (a0 == c0 && a1 == c1) := by
  have e : eqT Tryz.prog 20 82 (.agg #[.int .i64 a0, .int .i64 a1]) (.agg #[.int .i64 c0, .int .i64 c1]) = (match some (a0 == c0) with | some true => (match some (a1 == c1) with | some true => some true | some false => some false | none => none) | some false => some false | none => none) := by kernel_rfl
  rw [e]
  cases a0 == c0 <;> cases a1 == c1 <;> rfl
def custRat : Custom := ⟨fun o l => match o.op, l with
  | .binOp .eql t _ _ _, [.agg [.lit (.int .i64 a0), .lit (.int .i64 a1)], .agg [.lit (.int .i64 c0), .lit (.int .i64 c1)]] => match Nat.beq t 82 with
    | true => some (.lit (.bool (a0 == c0 && a1 == c1)))
    | false => none
  | _, _ => none⟩
theorem custRat_ok : custRat.ok Tryz.prog := by
  intro o l r h ρ w e vs hd hv
  dsimp only [custRat] at h
  split at h
  · rename_i t x y yt a0 a1 c0 c1 ho
    split at h
    · rename_i ht
      cases Nat.eq_of_beq_eq_true ht
      cases h
      simp only [AV.denL, AV.den, listO, Option.map_some, Option.some.injEq] at hd
      subst hd
      rw [ho] at hv
      simp only [Op.operands, List.map_cons, List.map_nil, List.cons.injEq, and_true] at hv
      obtain ⟨e1, e2⟩ := hv
      refine ⟨_, rfl, ?_⟩
      have hg : Tryz.prog.eqGuardType Tryz.prog.depth 82 = false := by kernel_rfl
      have hb : binV Tryz.prog .eql 82 (.agg #[.int .i64 a0, .int .i64 a1]) (.agg #[.int .i64 c0, .int .i64 c1]) = some (.bool (a0 == c0 && a1 == c1)) := by
        simp only [binV, hg, custRat_eqT]
        try rfl
      have := binV_run hb x y w
      simp only [execOp, ho, Sem.run_bind, e1, e2] at this ⊢
      rw [this]
      rfl
    · cases h
  · cases h

theorem custRatN_eqT (a0 c0 : Int) (a1 c1 : Int) : eqT Tryz.prog 20 82 (.agg #[.int .i64 a0, .int .i64 a1]) (.agg #[.int .i64 c0, .int .i64 c1]) = some (a0 == c0 && a1 == c1) := by
  have e : eqT Tryz.prog 20 82 (.agg #[.int .i64 a0, .int .i64 a1]) (.agg #[.int .i64 c0, .int .i64 c1]) = (match some (a0 == c0) with | some true => (match some (a1 == c1) with | some true => some true | some false => some false | none => none) | some false => some false | none => none) := by kernel_rfl
  rw [e]
  cases a0 == c0 <;> cases a1 == c1 <;> rfl
def custRatN : Custom := ⟨fun o l => match o.op, l with
  | .binOp .neq t _ _ _, [.agg [.lit (.int .i64 a0), .lit (.int .i64 a1)], .agg [.lit (.int .i64 c0), .lit (.int .i64 c1)]] => match Nat.beq t 82 with
    | true => some (.lit (.bool (!(a0 == c0 && a1 == c1))))
    | false => none
  | _, _ => none⟩
theorem custRatN_ok : custRatN.ok Tryz.prog := by
  intro o l r h ρ w e vs hd hv
  dsimp only [custRatN] at h
  split at h
  · rename_i t x y yt a0 a1 c0 c1 ho
    split at h
    · rename_i ht
      cases Nat.eq_of_beq_eq_true ht
      cases h
      simp only [AV.denL, AV.den, listO, Option.map_some, Option.some.injEq] at hd
      subst hd
      rw [ho] at hv
      simp only [Op.operands, List.map_cons, List.map_nil, List.cons.injEq, and_true] at hv
      obtain ⟨e1, e2⟩ := hv
      refine ⟨_, rfl, ?_⟩
      have hg : Tryz.prog.eqGuardType Tryz.prog.depth 82 = false := by kernel_rfl
      have hb : binV Tryz.prog .neq 82 (.agg #[.int .i64 a0, .int .i64 a1]) (.agg #[.int .i64 c0, .int .i64 c1]) = some (.bool (!(a0 == c0 && a1 == c1))) := by
        simp only [binV, hg, custRatN_eqT]
        try rfl
      have := binV_run hb x y w
      simp only [execOp, ho, Sem.run_bind, e1, e2] at this ⊢
      rw [this]
      rfl
    · cases h
  · cases h

end Go.Proofs.YtccddhoeampdjaaGreatDoor
