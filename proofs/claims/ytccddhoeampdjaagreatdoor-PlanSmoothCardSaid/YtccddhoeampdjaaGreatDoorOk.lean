/- Chapter 9: values of plans, pairs, reasons compared. -/
import Derived.Test.YtccddhoeampdjaaGreatDoorQk
set_option linter.unusedVariables false
set_option linter.unusedSimpArgs false
namespace Go.Proofs.YtccddhoeampdjaaGreatDoor
open Go.RowKit Go.Sym

theorem custTold_eqT (a0 c0 : Int) (a1 c1 : Int) : eqT Tryz.prog 20 44 (.agg #[.int .i64 a0, .int .i64 a1]) (.agg #[.int .i64 c0, .int .i64 c1]) = some (a0 == c0 && a1 == c1) := by
  have e : eqT Tryz.prog 20 44 (.agg #[.int .i64 a0, .int .i64 a1]) (.agg #[.int .i64 c0, .int .i64 c1]) = (match some (a0 == c0) with | some true => (match some (a1 == c1) with | some true => some true | some false => some false | none => none) | some false => some false | none => none) := by kernel_rfl
  rw [e]
  cases a0 == c0 <;> cases a1 == c1 <;> rfl
def custTold : Custom := ⟨fun o l => match o.op, l with
  | .binOp .eql t _ _ _, [.agg [.lit (.int .i64 a0), .lit (.int .i64 a1)], .agg [.lit (.int .i64 c0), .lit (.int .i64 c1)]] => match Nat.beq t 44 with
    | true => some (.lit (.bool (a0 == c0 && a1 == c1)))
    | false => none
  | _, _ => none⟩
theorem custTold_ok : custTold.ok Tryz.prog := by
  intro o l r h ρ w e vs hd hv
  dsimp only [custTold] at h
  split at h
  · rename_i t x y yt a0 a1 c0 c1 ho
    split at h
    · rename_i ht
      cases Nat.eq_of_beq_eq_true ht
      cases h
      simp only [AV.denL, AV.den, listO, Option.map_some, Option.some.injEq] at hd
      subst hd
      rw [ho] at hv
      simp only [Op.operands, List.map_cons, List.map_nil, List.cons.injEq, and_true] at hv
      obtain ⟨e1, e2⟩ := hv
      refine ⟨_, rfl, ?_⟩
      have hg : Tryz.prog.eqGuardType Tryz.prog.depth 44 = false := by kernel_rfl
      have hb : binV Tryz.prog .eql 44 (.agg #[.int .i64 a0, .int .i64 a1]) (.agg #[.int .i64 c0, .int .i64 c1]) = some (.bool (a0 == c0 && a1 == c1)) := by
        simp only [binV, hg, custTold_eqT]
        try rfl
      have := binV_run hb x y w
      simp only [execOp, ho, Sem.run_bind, e1, e2] at this ⊢
      rw [this]
      rfl
    · cases h
  · cases h

theorem custToldN_eqT (a0 c0 : Int) (a1 c1 : Int) : eqT Tryz.prog 20 30 (.agg #[.int .i64 a0, .int .i64 a1]) (.agg #[.int .i64 c0, .int .i64 c1]) = some (a0 == c0 && a1 == c1) := by
  have e : eqT Tryz.prog 20 30 (.agg #[.int .i64 a0, .int .i64 a1]) (.agg #[.int .i64 c0, .int .i64 c1]) = (match some (a0 == c0) with | some true => (match some (a1 == c1) with | some true => some true | some false => some false | none => none) | some false => some false | none => none) := by kernel_rfl
  rw [e]
  cases a0 == c0 <;> cases a1 == c1 <;> rfl
def custToldN : Custom := ⟨fun o l => match o.op, l with
  | .binOp .neq t _ _ _, [.agg [.lit (.int .i64 a0), .lit (.int .i64 a1)], .agg [.lit (.int .i64 c0), .lit (.int .i64 c1)]] => match Nat.beq t 30 with
    | true => some (.lit (.bool (!(a0 == c0 && a1 == c1))))
    | false => none
  | _, _ => none⟩
theorem custToldN_ok : custToldN.ok Tryz.prog := by
  intro o l r h ρ w e vs hd hv
  dsimp only [custToldN] at h
  split at h
  · rename_i t x y yt a0 a1 c0 c1 ho
    split at h
    · rename_i ht
      cases Nat.eq_of_beq_eq_true ht
      cases h
      simp only [AV.denL, AV.den, listO, Option.map_some, Option.some.injEq] at hd
      subst hd
      rw [ho] at hv
      simp only [Op.operands, List.map_cons, List.map_nil, List.cons.injEq, and_true] at hv
      obtain ⟨e1, e2⟩ := hv
      refine ⟨_, rfl, ?_⟩
      have hg : Tryz.prog.eqGuardType Tryz.prog.depth 30 = false := by kernel_rfl
      have hb : binV Tryz.prog .neq 30 (.agg #[.int .i64 a0, .int .i64 a1]) (.agg #[.int .i64 c0, .int .i64 c1]) = some (.bool (!(a0 == c0 && a1 == c1))) := by
        simp only [binV, hg, custToldN_eqT]
        try rfl
      have := binV_run hb x y w
      simp only [execOp, ho, Sem.run_bind, e1, e2] at this ⊢
      rw [this]
      rfl
    · cases h
  · cases h

theorem custI2N_eqT (a0 c0 : Int) (a1 c1 : Int) : eqT Tryz.prog 20 161 (.agg #[.int .i64 a0, .int .i64 a1]) (.agg #[.int .i64 c0, .int .i64 c1]) = some (a0 == c0 && a1 == c1) := by
  have e : eqT Tryz.prog 20 161 (.agg #[.int .i64 a0, .int .i64 a1]) (.agg #[.int .i64 c0, .int .i64 c1]) = (match some (a0 == c0) with | some true => (match some (a1 == c1) with | some true => some true | some false => some false | none => none) | some false => some false | none => none) := by kernel_rfl
  rw [e]
  cases a0 == c0 <;> cases a1 == c1 <;> rfl
def custI2N : Custom := ⟨fun o l => match o.op, l with
  | .binOp .neq t _ _ _, [.agg [.lit (.int .i64 a0), .lit (.int .i64 a1)], .agg [.lit (.int .i64 c0), .lit (.int .i64 c1)]] => match Nat.beq t 161 with
    | true => some (.lit (.bool (!(a0 == c0 && a1 == c1))))
    | false => none
  | _, _ => none⟩
theorem custI2N_ok : custI2N.ok Tryz.prog := by
  intro o l r h ρ w e vs hd hv
  dsimp only [custI2N] at h
  split at h
  · rename_i t x y yt a0 a1 c0 c1 ho
    split at h
    · rename_i ht
      cases Nat.eq_of_beq_eq_true ht
      cases h
      simp only [AV.denL, AV.den, listO, Option.map_some, Option.some.injEq] at hd
      subst hd
      rw [ho] at hv
      simp only [Op.operands, List.map_cons, List.map_nil, List.cons.injEq, and_true] at hv
      obtain ⟨e1, e2⟩ := hv
      refine ⟨_, rfl, ?_⟩
      have hg : Tryz.prog.eqGuardType Tryz.prog.depth 161 = false := by kernel_rfl
      have hb : binV Tryz.prog .neq 161 (.agg #[.int .i64 a0, .int .i64 a1]) (.agg #[.int .i64 c0, .int .i64 c1]) = some (.bool (!(a0 == c0 && a1 == c1))) := by
        simp only [binV, hg, custI2N_eqT]
        try rfl
      have := binV_run hb x y w
      simp only [execOp, ho, Sem.run_bind, e1, e2] at this ⊢
      rw [this]
      rfl
    · cases h
  · cases h

theorem custWhy_eqT (a0 c0 : Int) (a1 c1 : ByteArray) : eqT Tryz.prog 20 128 (.agg #[.int .i64 a0, .string a1]) (.agg #[.int .i64 c0, .string c1]) = some (a0 == c0 && a1 == c1) := by
  have e : eqT Tryz.prog 20 128 (.agg #[.int .i64 a0, .string a1]) (.agg #[.int .i64 c0, .string c1]) = (match some (a0 == c0) with | some true => (match some (a1 == c1) with | some true => some true | some false => some false | none => none) | some false => some false | none => none) := by kernel_rfl
  rw [e]
  cases a0 == c0 <;> cases a1 == c1 <;> rfl
def custWhy : Custom := ⟨fun o l => match o.op, l with
  | .binOp .neq t _ _ _, [.agg [.lit (.int .i64 a0), .lit (.string a1)], .agg [.lit (.int .i64 c0), .lit (.string c1)]] => match Nat.beq t 128 with
    | true => some (.lit (.bool (!(a0 == c0 && a1 == c1))))
    | false => none
  | _, _ => none⟩
theorem custWhy_ok : custWhy.ok Tryz.prog := by
  intro o l r h ρ w e vs hd hv
  dsimp only [custWhy] at h
  split at h
  · rename_i t x y yt a0 a1 c0 c1 ho
    split at h
    · rename_i ht
      cases Nat.eq_of_beq_eq_true ht
      cases h
      simp only [AV.denL, AV.den, listO, Option.map_some, Option.some.injEq] at hd
      subst hd
      rw [ho] at hv
      simp only [Op.operands, List.map_cons, List.map_nil, List.cons.injEq, and_true] at hv
      obtain ⟨e1, e2⟩ := hv
      refine ⟨_, rfl, ?_⟩
      have hg : Tryz.prog.eqGuardType Tryz.prog.depth 128 = false := by kernel_rfl
      have hb : binV Tryz.prog .neq 128 (.agg #[.int .i64 a0, .string a1]) (.agg #[.int .i64 c0, .string c1]) = some (.bool (!(a0 == c0 && a1 == c1))) := by
        simp only [binV, hg, custWhy_eqT]
        try rfl
      have := binV_run hb x y w
      simp only [execOp, ho, Sem.run_bind, e1, e2] at this ⊢
      rw [this]
      rfl
    · cases h
  · cases h

theorem custRWhy_eqT (a0 c0 : Int) (a1 c1 : ByteArray) : eqT Tryz.prog 20 179 (.agg #[.int .i64 a0, .string a1]) (.agg #[.int .i64 c0, .string c1]) = some (a0 == c0 && a1 == c1) := by
  have e : eqT Tryz.prog 20 179 (.agg #[.int .i64 a0, .string a1]) (.agg #[.int .i64 c0, .string c1]) = (match some (a0 == c0) with | some true => (match some (a1 == c1) with | some true => some true | some false => some false | none => none) | some false => some false | none => none) := by kernel_rfl
  rw [e]
  cases a0 == c0 <;> cases a1 == c1 <;> rfl
def custRWhy : Custom := ⟨fun o l => match o.op, l with
  | .binOp .neq t _ _ _, [.agg [.lit (.int .i64 a0), .lit (.string a1)], .agg [.lit (.int .i64 c0), .lit (.string c1)]] => match Nat.beq t 179 with
    | true => some (.lit (.bool (!(a0 == c0 && a1 == c1))))
    | false => none
  | _, _ => none⟩
theorem custRWhy_ok : custRWhy.ok Tryz.prog := by
  intro o l r h ρ w e vs hd hv
  dsimp only [custRWhy] at h
  split at h
  · rename_i t x y yt a0 a1 c0 c1 ho
    split at h
    · rename_i ht
      cases Nat.eq_of_beq_eq_true ht
      cases h
      simp only [AV.denL, AV.den, listO, Option.map_some, Option.some.injEq] at hd
      subst hd
      rw [ho] at hv
      simp only [Op.operands, List.map_cons, List.map_nil, List.cons.injEq, and_true] at hv
      obtain ⟨e1, e2⟩ := hv
      refine ⟨_, rfl, ?_⟩
      have hg : Tryz.prog.eqGuardType Tryz.prog.depth 179 = false := by kernel_rfl
      have hb : binV Tryz.prog .neq 179 (.agg #[.int .i64 a0, .string a1]) (.agg #[.int .i64 c0, .string c1]) = some (.bool (!(a0 == c0 && a1 == c1))) := by
        simp only [binV, hg, custRWhy_eqT]
        try rfl
      have := binV_run hb x y w
      simp only [execOp, ho, Sem.run_bind, e1, e2] at this ⊢
      rw [this]
      rfl
    · cases h
  · cases h

end Go.Proofs.YtccddhoeampdjaaGreatDoor
