/- A region of a difference that may be no number; the checks of samples, the program's and the reference's. -/
import Derived.Test.YtoopgdchiljmiaaGreatDoorHa
set_option linter.unusedVariables false
set_option linter.unusedSimpArgs false
namespace Go.Proofs.YtoopgdchiljmiaaGreatDoor
open Go.RowKit Go.Sym

theorem nan_not (x y t : Nat) : Op.floatEq .f32 ((Question.nanBits .f32 x y).cut t) 0 = false := by
  have k1 : FloatKind.f32.format.signWeight = 2147483648 := by decide +kernel
  have k2 : FloatKind.f32.format.binade = 8388608 := by decide +kernel
  have k3 : FloatKind.f32.format.infRung = 2139095040 := by decide +kernel
  have e : ∃ s f, Ieee.Format.read FloatKind.f32.format ((Question.nanBits .f32 x y).cut t) = .nan s f := by
    simp only [Question.cut]
    unfold Ieee.Format.read
    simp only [k1, k2, k3]
    have h1 : t / 2 % (2 ^ 23 - 1) < 8388607 := Nat.mod_lt _ (by decide)
    have h2 : (t % 2 * 2 ^ 31 + 0x7f800000 + 1 + t / 2 % (2 ^ 23 - 1)) % 2147483648 = 2139095041 + t / 2 % (2 ^ 23 - 1) := by omega
    rw [h2, if_neg (by omega), if_neg (by omega), if_neg (by omega)]
    exact ⟨_, _, rfl⟩
  obtain ⟨s, f, e⟩ := e
  unfold Op.floatEq Ieee.Format.order
  rw [e]
  rfl
theorem run_sub_nan {P : Program} {w : World} {b : Nat} (t : TypeId) (h : fin b = false) : ∃ r, (binOp .sub t (.float .f32 b) (.float .f32 b)).run P w = .ok (.float .f32 r) w.drew ∧ Op.floatEq .f32 r 0 = false := by
  refine ⟨_, ?_, nan_not b b (w.tape w.drawn (.nanBits .f32 b b))⟩
  simp [binOp, Op.floatArith, sub_self_inf h, Question.forced]

section
variable {cfg : Cfg} {F : Frm} {T : List (Nat × AV)} {H : List (Nat × Chunk)} {nx : Nat} {ρ : Env} {a : Act} {w : World}
theorem holds_drew (h : Holds F T H nx ρ a w) : Holds F T H nx ρ a w.drew := h.drew
theorem op_wpIn {ops : Array Oper} {i : Nat} {o : Oper} {K : Act → World → Prop} {Q : Exit → Act → World → Prop} {v : Value} {w' : World} (ho : ops[i]? = some o) (hg : o.guard = none) (hd : ∀ c, o.op ≠ .defer c) (hr : (execOp a.eval o).run F.P w = .ok (.value v) w') (hK : K (a.put o.dst v) w') : wpOpIn (fen F.rd) 2 F.P ops Q i K a w :=
  wpOpIn_on ho (by simp [Region.wanted, hg]) (wpIn_ok hd hr (.inl rfl) hK)
/-- 'x - x != 0' of a word that is no number. -/
theorem lwp_nan (hC : CfgOk F cfg) {id : Nat} {ops : Array Oper} {Q : Exit → St → Prop} {b : Nat} {t0 t1 t2 t3 : TypeId} {o0 o1 o2 o3 : Oper} (hf : fin b = false) (hT : Sym.look 0 T = some (.lit (.float .f32 b)))
    (hs : ops.size = 4) (h0 : ops[0]? = some o0) (h1 : ops[1]? = some o1) (h2 : ops[2]? = some o2) (h3 : ops[3]? = some o3) (g0 : o0.guard = none) (g1 : o1.guard = none) (g2 : o2.guard = none) (g3 : o3.guard = none)
    (d0 : o0.dst = some 5) (d1 : o1.dst = some 6) (d2 : o2.dst = some 7) (d3 : o3.dst = some 8)
    (e0 : o0.op = .move (.tmp 0)) (e1 : o1.op = .move (.tmp 0)) (e2 : o2.op = .binOp .sub t0 (.tmp 5) (.tmp 6) t1) (e3 : o3.op = .binOp .neq t2 (.tmp 7) (.const (.float .f32 0)) t3)
    (hn : Nat.ble 9 cfg.nt = true) (h7 : Sym.look 7 T = none) (hq : Q .normal ⟨(8, .lit (.bool true)) :: (6, .lit (.float .f32 b)) :: (5, .lit (.float .f32 b)) :: T, H, nx⟩) : LWP F (.region id ops false) Q ⟨T, H, nx⟩ := ⟨fun ρ a w hH => by
  refine wpIn_region ?_
  have hr : List.range ops.size = [0, 1, 2, 3] := by rw [hs]; rfl
  have hn := Nat.le_of_ble_eq_true hn
  have put : ∀ {T : List (Nat × AV)} {a : Act} {w : World} {k : Nat} {v : Value}, k < 9 → Holds F T H nx ρ a w → Holds F ((k, .lit v) :: T) H nx ρ (a.put (some k) v) w := fun {T a w k v} hk h =>
    putT_sound hC h (d := some k) (r := .lit v) (by simp only [putT]; rw [show Nat.blt k cfg.nt = true from Nat.ble_eq_true_of_le (by omega)]) (by simp [AV.den])
  have at_ : ∀ {T : List (Nat × AV)} {a : Act} {w : World} {k : Nat} {v : Value}, Holds F T H nx ρ a w → Sym.look k T = some (.lit v) → a.eval (.tmp k) = v := fun {T a w k v} h hl => by
    obtain ⟨u, hu, hv⟩ := h.I.tm k _ hl
    simp only [AV.den, Option.some.injEq] at hu
    subst hu
    exact eval_tmp hv
  have hH : Holds F T H nx ρ a w := hH
  rw [hr, wpOpsIn_cons]
  refine op_wpIn h0 g0 (by rw [e0]; intro c hc; cases hc) (v := .float .f32 b) (w' := w) (by simp [execOp, e0, at_ hH hT]) ?_
  rw [d0]
  have H1 := put (k := 5) (v := .float .f32 b) (by omega) hH
  rw [wpOpsIn_cons]
  refine op_wpIn h1 g1 (by rw [e1]; intro c hc; cases hc) (v := .float .f32 b) (w' := w) (by simp [execOp, e1, at_ H1 (show Sym.look 0 ((5, AV.lit (.float .f32 b)) :: T) = _ from hT)]) ?_
  rw [d1]
  have H2 := put (k := 6) (v := .float .f32 b) (by omega) H1
  rw [wpOpsIn_cons]
  obtain ⟨r, hr2, hne⟩ := run_sub_nan (P := F.P) (w := w) t0 hf
  refine op_wpIn h2 g2 (by rw [e2]; intro c hc; cases hc) (v := .float .f32 r) (w' := w.drew) (by simp only [execOp, e2, at_ H2 (k := 5) rfl, at_ H2 (k := 6) rfl, Sem.run_bind, eqGuard_flt, Result.andThen_ok, hr2, Sem.run_pure]) ?_
  rw [d2]
  have H3 := put (k := 7) (v := .float .f32 r) (by omega) (holds_drew H2)
  rw [wpOpsIn_cons]
  have hr3 : (binOp .neq t2 (.float .f32 r) (.float .f32 0)).run F.P w.drew = .ok (.bool true) w.drew := by
    have : (FloatKind.f32.format.order r 0 == some .eq) = false := hne
    simp [binOp, Op.floatCmp, bne, this]
  refine op_wpIn h3 g3 (by rw [e3]; intro c hc; cases hc) (v := .bool true) (w' := w.drew) (by simp only [execOp, e3, at_ H3 (k := 7) rfl, show ∀ (a : Act) v, a.eval (.const v) = v from fun _ _ => rfl, Sem.run_bind, eqGuard_flt, Result.andThen_ok, hr3, Sem.run_pure]) ?_
  rw [d3]
  have H4 := put (k := 8) (v := .bool true) (by omega) H3
  simp only [wpOpsIn]
  refine ⟨_, ρ, hq, H4.m, H4.I.sub (fun _ _ _ e => e) (fun k v e => ?_) (fun _ _ e => e)⟩
  simp only [look_cons] at e ⊢
  by_cases k8 : k = 8
  · rw [if_pos k8] at e ⊢; exact e
  · rw [if_neg k8] at e ⊢
    by_cases k7 : k = 7
    · subst k7
      rw [if_neg (by decide), if_neg (by decide), h7] at e
      cases e
    · rw [if_neg k7]; exact e⟩
end

end Go.Proofs.YtoopgdchiljmiaaGreatDoor
