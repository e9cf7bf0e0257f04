/- Chapter 5: aggregates compared. -/
import Derived.Test.YtpfafdnempehkaaGreatDoorEa
import Derived.Test.YtpfafdnempehkaaGreatDoorSymV
set_option linter.unusedVariables false
set_option linter.unusedSimpArgs false
namespace Go.Proofs.YtpfafdnempehkaaGreatDoor
open Go.RowKit Go.Sym

theorem custPair_eqT (a0 c0 : Int) (a1 c1 : Int) : eqT Tryz.prog 20 68 (.agg #[.int .i64 a0, .int .i64 a1]) (.agg #[.int .i64 c0, .int .i64 c1]) = some (a0 == c0 && a1 == c1) := by
  have e : eqT Tryz.prog 20 68 (.agg #[.int .i64 a0, .int .i64 a1]) (.agg #[.int .i64 c0, .int .i64 c1]) = (match some (a0 == c0) with | some true => (match some (a1 == c1) with | some true => some true | some false => some false | none => none) | some false => some false | none => none) := by kernel_rfl
  rw [e]
  cases a0 == c0 <;> cases a1 == c1 <;> rfl
def custPair : Custom := ⟨fun o l => match o.op, l with
  | .binOp .eql t _ _ _, [.agg [.lit (.int .i64 a0), .lit (.int .i64 a1)], .agg [.lit (.int .i64 c0), .lit (.int .i64 c1)]] => match Nat.beq t 68 with
    | true => some (.lit (.bool (a0 == c0 && a1 == c1)))
    | false => none
  | _, _ => none⟩
theorem custPair_ok : custPair.ok Tryz.prog := by
  intro o l r h ρ w e vs hd hv
  dsimp only [custPair] at h
  split at h
  · rename_i t x y yt a0 a1 c0 c1 ho
    split at h
    · rename_i ht
      cases Nat.eq_of_beq_eq_true ht
      cases h
      simp only [AV.denL, AV.den, listO, Option.map_some, Option.some.injEq] at hd
      subst hd
      rw [ho] at hv
      simp only [Op.operands, List.map_cons, List.map_nil, List.cons.injEq, and_true] at hv
      obtain ⟨e1, e2⟩ := hv
      refine ⟨_, rfl, ?_⟩
      have hg : Tryz.prog.eqGuardType Tryz.prog.depth 68 = false := by kernel_rfl
      have hb : binV Tryz.prog .eql 68 (.agg #[.int .i64 a0, .int .i64 a1]) (.agg #[.int .i64 c0, .int .i64 c1]) = some (.bool (a0 == c0 && a1 == c1)) := by
        simp only [binV, hg, custPair_eqT]
        try rfl
      have := binV_run hb x y w
      simp only [execOp, ho, Sem.run_bind, e1, e2] at this ⊢
      rw [this]
      rfl
    · cases h
  · cases h

theorem custTwo_eqT (a0 c0 : Int) (a1 c1 : Int) (a2 c2 : Int) (a3 c3 : Int) : eqT Tryz.prog 20 120 (.agg #[.int .i64 a0, .int .i64 a1, .int .i64 a2, .int .i64 a3]) (.agg #[.int .i64 c0, .int .i64 c1, .int .i64 c2, .int .i64 c3]) = some (a0 == c0 && a1 == c1 && a2 == c2 && a3 == c3) := by
  have e : eqT Tryz.prog 20 120 (.agg #[.int .i64 a0, .int .i64 a1, .int .i64 a2, .int .i64 a3]) (.agg #[.int .i64 c0, .int .i64 c1, .int .i64 c2, .int .i64 c3]) = (match (match some (a0 == c0) with | some true => (match some (a1 == c1) with | some true => some true | some false => some false | none => none) | some false => some false | none => none) with | some true => (match (match some (a2 == c2) with | some true => (match some (a3 == c3) with | some true => some true | some false => some false | none => none) | some false => some false | none => none) with | some true => some true | some false => some false | none => none) | some false => some false | none => none) := by kernel_rfl
  rw [e]
  cases a0 == c0 <;> cases a1 == c1 <;> cases a2 == c2 <;> cases a3 == c3 <;> rfl
def custTwo : Custom := ⟨fun o l => match o.op, l with
  | .binOp .neq t _ _ _, [.agg [.lit (.int .i64 a0), .lit (.int .i64 a1), .lit (.int .i64 a2), .lit (.int .i64 a3)], .agg [.lit (.int .i64 c0), .lit (.int .i64 c1), .lit (.int .i64 c2), .lit (.int .i64 c3)]] => match Nat.beq t 120 with
    | true => some (.lit (.bool (!(a0 == c0 && a1 == c1 && a2 == c2 && a3 == c3))))
    | false => none
  | _, _ => none⟩
theorem custTwo_ok : custTwo.ok Tryz.prog := by
  intro o l r h ρ w e vs hd hv
  dsimp only [custTwo] at h
  split at h
  · rename_i t x y yt a0 a1 a2 a3 c0 c1 c2 c3 ho
    split at h
    · rename_i ht
      cases Nat.eq_of_beq_eq_true ht
      cases h
      simp only [AV.denL, AV.den, listO, Option.map_some, Option.some.injEq] at hd
      subst hd
      rw [ho] at hv
      simp only [Op.operands, List.map_cons, List.map_nil, List.cons.injEq, and_true] at hv
      obtain ⟨e1, e2⟩ := hv
      refine ⟨_, rfl, ?_⟩
      have hg : Tryz.prog.eqGuardType Tryz.prog.depth 120 = false := by kernel_rfl
      have hb : binV Tryz.prog .neq 120 (.agg #[.int .i64 a0, .int .i64 a1, .int .i64 a2, .int .i64 a3]) (.agg #[.int .i64 c0, .int .i64 c1, .int .i64 c2, .int .i64 c3]) = some (.bool (!(a0 == c0 && a1 == c1 && a2 == c2 && a3 == c3))) := by
        simp only [binV, hg, custTwo_eqT]
        try rfl
      have := binV_run hb x y w
      simp only [execOp, ho, Sem.run_bind, e1, e2] at this ⊢
      rw [this]
      rfl
    · cases h
  · cases h

theorem custIv_eqT (a0 c0 : Int) (a1 c1 : Int) : eqT Tryz.prog 20 45 (.agg #[.int .i64 a0, .int .i64 a1]) (.agg #[.int .i64 c0, .int .i64 c1]) = some (a0 == c0 && a1 == c1) := by
  have e : eqT Tryz.prog 20 45 (.agg #[.int .i64 a0, .int .i64 a1]) (.agg #[.int .i64 c0, .int .i64 c1]) = (match some (a0 == c0) with | some true => (match some (a1 == c1) with | some true => some true | some false => some false | none => none) | some false => some false | none => none) := by kernel_rfl
  rw [e]
  cases a0 == c0 <;> cases a1 == c1 <;> rfl
def custIv : Custom := ⟨fun o l => match o.op, l with
  | .binOp .eql t _ _ _, [.agg [.lit (.int .i64 a0), .lit (.int .i64 a1)], .agg [.lit (.int .i64 c0), .lit (.int .i64 c1)]] => match Nat.beq t 45 with
    | true => some (.lit (.bool (a0 == c0 && a1 == c1)))
    | false => none
  | _, _ => none⟩
theorem custIv_ok : custIv.ok Tryz.prog := by
  intro o l r h ρ w e vs hd hv
  dsimp only [custIv] at h
  split at h
  · rename_i t x y yt a0 a1 c0 c1 ho
    split at h
    · rename_i ht
      cases Nat.eq_of_beq_eq_true ht
      cases h
      simp only [AV.denL, AV.den, listO, Option.map_some, Option.some.injEq] at hd
      subst hd
      rw [ho] at hv
      simp only [Op.operands, List.map_cons, List.map_nil, List.cons.injEq, and_true] at hv
      obtain ⟨e1, e2⟩ := hv
      refine ⟨_, rfl, ?_⟩
      have hg : Tryz.prog.eqGuardType Tryz.prog.depth 45 = false := by kernel_rfl
      have hb : binV Tryz.prog .eql 45 (.agg #[.int .i64 a0, .int .i64 a1]) (.agg #[.int .i64 c0, .int .i64 c1]) = some (.bool (a0 == c0 && a1 == c1)) := by
        simp only [binV, hg, custIv_eqT]
        try rfl
      have := binV_run hb x y w
      simp only [execOp, ho, Sem.run_bind, e1, e2] at this ⊢
      rw [this]
      rfl
    · cases h
  · cases h

theorem custI2_eqT (a0 c0 : Int) (a1 c1 : Int) : eqT Tryz.prog 20 93 (.agg #[.int .i64 a0, .int .i64 a1]) (.agg #[.int .i64 c0, .int .i64 c1]) = some (a0 == c0 && a1 == c1) := by
  have e : eqT Tryz.prog 20 93 (.agg #[.int .i64 a0, .int .i64 a1]) (.agg #[.int .i64 c0, .int .i64 c1]) = (match some (a0 == c0) with | some true => (match some (a1 == c1) with | some true => some true | some false => some false | none => none) | some false => some false | none => none) := by kernel_rfl
  rw [e]
  cases a0 == c0 <;> cases a1 == c1 <;> rfl
def custI2 : Custom := ⟨fun o l => match o.op, l with
  | .binOp .neq t _ _ _, [.agg [.lit (.int .i64 a0), .lit (.int .i64 a1)], .agg [.lit (.int .i64 c0), .lit (.int .i64 c1)]] => match Nat.beq t 93 with
    | true => some (.lit (.bool (!(a0 == c0 && a1 == c1))))
    | false => none
  | _, _ => none⟩
theorem custI2_ok : custI2.ok Tryz.prog := by
  intro o l r h ρ w e vs hd hv
  dsimp only [custI2] at h
  split at h
  · rename_i t x y yt a0 a1 c0 c1 ho
    split at h
    · rename_i ht
      cases Nat.eq_of_beq_eq_true ht
      cases h
      simp only [AV.denL, AV.den, listO, Option.map_some, Option.some.injEq] at hd
      subst hd
      rw [ho] at hv
      simp only [Op.operands, List.map_cons, List.map_nil, List.cons.injEq, and_true] at hv
      obtain ⟨e1, e2⟩ := hv
      refine ⟨_, rfl, ?_⟩
      have hg : Tryz.prog.eqGuardType Tryz.prog.depth 93 = false := by kernel_rfl
      have hb : binV Tryz.prog .neq 93 (.agg #[.int .i64 a0, .int .i64 a1]) (.agg #[.int .i64 c0, .int .i64 c1]) = some (.bool (!(a0 == c0 && a1 == c1))) := by
        simp only [binV, hg, custI2_eqT]
        try rfl
      have := binV_run hb x y w
      simp only [execOp, ho, Sem.run_bind, e1, e2] at this ⊢
      rw [this]
      rfl
    · cases h
  · cases h

theorem custRPair_eqT (a0 c0 : Int) (a1 c1 : Int) : eqT Tryz.prog 20 42 (.agg #[.int .i64 a0, .int .i64 a1]) (.agg #[.int .i64 c0, .int .i64 c1]) = some (a0 == c0 && a1 == c1) := by
  have e : eqT Tryz.prog 20 42 (.agg #[.int .i64 a0, .int .i64 a1]) (.agg #[.int .i64 c0, .int .i64 c1]) = (match some (a0 == c0) with | some true => (match some (a1 == c1) with | some true => some true | some false => some false | none => none) | some false => some false | none => none) := by kernel_rfl
  rw [e]
  cases a0 == c0 <;> cases a1 == c1 <;> rfl
def custRPair : Custom := ⟨fun o l => match o.op, l with
  | .binOp .neq t _ _ _, [.agg [.lit (.int .i64 a0), .lit (.int .i64 a1)], .agg [.lit (.int .i64 c0), .lit (.int .i64 c1)]] => match Nat.beq t 42 with
    | true => some (.lit (.bool (!(a0 == c0 && a1 == c1))))
    | false => none
  | _, _ => none⟩
theorem custRPair_ok : custRPair.ok Tryz.prog := by
  intro o l r h ρ w e vs hd hv
  dsimp only [custRPair] at h
  split at h
  · rename_i t x y yt a0 a1 c0 c1 ho
    split at h
    · rename_i ht
      cases Nat.eq_of_beq_eq_true ht
      cases h
      simp only [AV.denL, AV.den, listO, Option.map_some, Option.some.injEq] at hd
      subst hd
      rw [ho] at hv
      simp only [Op.operands, List.map_cons, List.map_nil, List.cons.injEq, and_true] at hv
      obtain ⟨e1, e2⟩ := hv
      refine ⟨_, rfl, ?_⟩
      have hg : Tryz.prog.eqGuardType Tryz.prog.depth 42 = false := by kernel_rfl
      have hb : binV Tryz.prog .neq 42 (.agg #[.int .i64 a0, .int .i64 a1]) (.agg #[.int .i64 c0, .int .i64 c1]) = some (.bool (!(a0 == c0 && a1 == c1))) := by
        simp only [binV, hg, custRPair_eqT]
        try rfl
      have := binV_run hb x y w
      simp only [execOp, ho, Sem.run_bind, e1, e2] at this ⊢
      rw [this]
      rfl
    · cases h
  · cases h

theorem custMark_eqT (a0 c0 : ByteArray) (a1 c1 : Int) : eqT Tryz.prog 20 40 (.agg #[.string a0, .int .i64 a1]) (.agg #[.string c0, .int .i64 c1]) = some (a0 == c0 && a1 == c1) := by
  have e : eqT Tryz.prog 20 40 (.agg #[.string a0, .int .i64 a1]) (.agg #[.string c0, .int .i64 c1]) = (match some (a0 == c0) with | some true => (match some (a1 == c1) with | some true => some true | some false => some false | none => none) | some false => some false | none => none) := by kernel_rfl
  rw [e]
  cases a0 == c0 <;> cases a1 == c1 <;> rfl
def custMark : Custom := ⟨fun o l => match o.op, l with
  | .binOp .neq t _ _ _, [.agg [.lit (.string a0), .lit (.int .i64 a1)], .agg [.lit (.string c0), .lit (.int .i64 c1)]] => match Nat.beq t 40 with
    | true => some (.lit (.bool (!(a0 == c0 && a1 == c1))))
    | false => none
  | _, _ => none⟩
theorem custMark_ok : custMark.ok Tryz.prog := by
  intro o l r h ρ w e vs hd hv
  dsimp only [custMark] at h
  split at h
  · rename_i t x y yt a0 a1 c0 c1 ho
    split at h
    · rename_i ht
      cases Nat.eq_of_beq_eq_true ht
      cases h
      simp only [AV.denL, AV.den, listO, Option.map_some, Option.some.injEq] at hd
      subst hd
      rw [ho] at hv
      simp only [Op.operands, List.map_cons, List.map_nil, List.cons.injEq, and_true] at hv
      obtain ⟨e1, e2⟩ := hv
      refine ⟨_, rfl, ?_⟩
      have hg : Tryz.prog.eqGuardType Tryz.prog.depth 40 = false := by kernel_rfl
      have hb : binV Tryz.prog .neq 40 (.agg #[.string a0, .int .i64 a1]) (.agg #[.string c0, .int .i64 c1]) = some (.bool (!(a0 == c0 && a1 == c1))) := by
        simp only [binV, hg, custMark_eqT]
        try rfl
      have := binV_run hb x y w
      simp only [execOp, ho, Sem.run_bind, e1, e2] at this ⊢
      rw [this]
      rfl
    · cases h
  · cases h

theorem custSight_eqT (a0 c0 : ByteArray) (a1 c1 : Int) : eqT Tryz.prog 20 37 (.agg #[.string a0, .int .i64 a1]) (.agg #[.string c0, .int .i64 c1]) = some (a0 == c0 && a1 == c1) := by
  have e : eqT Tryz.prog 20 37 (.agg #[.string a0, .int .i64 a1]) (.agg #[.string c0, .int .i64 c1]) = (match some (a0 == c0) with | some true => (match some (a1 == c1) with | some true => some true | some false => some false | none => none) | some false => some false | none => none) := by kernel_rfl
  rw [e]
  cases a0 == c0 <;> cases a1 == c1 <;> rfl
def custSight : Custom := ⟨fun o l => match o.op, l with
  | .binOp .neq t _ _ _, [.agg [.lit (.string a0), .lit (.int .i64 a1)], .agg [.lit (.string c0), .lit (.int .i64 c1)]] => match Nat.beq t 37 with
    | true => some (.lit (.bool (!(a0 == c0 && a1 == c1))))
    | false => none
  | _, _ => none⟩
theorem custSight_ok : custSight.ok Tryz.prog := by
  intro o l r h ρ w e vs hd hv
  dsimp only [custSight] at h
  split at h
  · rename_i t x y yt a0 a1 c0 c1 ho
    split at h
    · rename_i ht
      cases Nat.eq_of_beq_eq_true ht
      cases h
      simp only [AV.denL, AV.den, listO, Option.map_some, Option.some.injEq] at hd
      subst hd
      rw [ho] at hv
      simp only [Op.operands, List.map_cons, List.map_nil, List.cons.injEq, and_true] at hv
      obtain ⟨e1, e2⟩ := hv
      refine ⟨_, rfl, ?_⟩
      have hg : Tryz.prog.eqGuardType Tryz.prog.depth 37 = false := by kernel_rfl
      have hb : binV Tryz.prog .neq 37 (.agg #[.string a0, .int .i64 a1]) (.agg #[.string c0, .int .i64 c1]) = some (.bool (!(a0 == c0 && a1 == c1))) := by
        simp only [binV, hg, custSight_eqT]
        try rfl
      have := binV_run hb x y w
      simp only [execOp, ho, Sem.run_bind, e1, e2] at this ⊢
      rw [this]
      rfl
    · cases h
  · cases h

end Go.Proofs.YtpfafdnempehkaaGreatDoor
