/- AlignTrue holds for every input: the call returns true, and each argument reads behind it as it read before. -/
import Derived.Test.YtpfafdnempehkaaGreatDoorGd
import Derived.Test.YtpfafdnempehkaaGreatDoorGc
set_option linter.unusedVariables false
set_option linter.unusedSimpArgs false
namespace Go.Proofs.YtpfafdnempehkaaGreatDoor
open Go.RowKit Go.Sym
open Go.ChangeShapes Go.WideShapes Go.ChangeAt
namespace cTrue

abbrev fN : FuncId := 3
noncomputable abbrev fF : Func := Tryz.f3
set_option maxRecDepth 20000 in
theorem run (W : World) (g0 o0 : List Int) (u0 w0 : Value) (e0 y0 z0 : Int) (hg0 : Rd W W.heap.size 1 u0 g0.length (g0.map (Value.int .u8))) (ho0 : Rd W W.heap.size 1 w0 o0.length (o0.map (Value.int .i8))) (wg0 : ∀ x ∈ g0, 0 ≤ x ∧ x ≤ 255) (wo0 : ∀ x ∈ o0, -128 ≤ x ∧ x ≤ 127) (we0 : 0 ≤ e0 ∧ e0 ≤ 255) (wy0 : 0 ≤ y0 ∧ y0 ≤ 255) (wz0 : 0 ≤ z0 ∧ z0 ≤ 65535) (hp : ∃ t fr, W.heap[2]? = some (.cells (powZ.map fun z => Value.int .u64 z).toArray t fr)) (hf : ∃ t fr, W.heap[0]? = some (.cells formsV.toArray t fr)) :
    Calls Tryz.prog fN #[.agg #[u0, w0, .int .u8 e0, .int .u8 y0, .int .u16 z0]] W fun e w' => e = .returned (.bool true) ∧ Below W.heap.size W w' := by
  obtain ⟨ap2, dp2⟩ := ro_of_rd (ρ := lawEnv [u0, w0]) (k := 2) hg0 rfl (smC_cells _)
  obtain ⟨ap3, dp3⟩ := ro_of_rd (ρ := lawEnv [u0, w0]) (k := 3) ho0 rfl (smC_cells _)
  have hd : AV.denL (lawEnv [u0, w0]) [.agg [.sl 2 g0.length, .sl 3 o0.length, .lit (.int .u8 e0), .lit (.int .u8 y0), .lit (.int .u16 z0)]] = some [.agg #[u0, w0, .int .u8 e0, .int .u8 y0, .int .u16 z0]] := by
    simp only [AV.den] at dp2 dp3
    simp only [csA, AV.denL, AV.den, dp2, dp3, listO, Option.map_some]
  refine ((LawU_s g0 o0 e0 y0 z0 wg0 wo0 we0 wy0 wz0 (rd_len hg0) (rd_len ho0)).2 (lawEnv [u0, w0]) W _ (fun i L e => ?_) (fun g i h => ?_) ⟨fun i c e => ?_, fun i c e ho => ?_⟩ hd).mono fun e w' h => law_done (lawIn_no _ rfl) h
  · match i, e with
    | 0, _ => rfl
    | 1, _ => rfl
    | 2, _ => rfl
    | 3, _ => rfl
    | k + 4, e => cases e
  · have h : (g, i) ∈ lawG := h
    simp only [List.mem_cons, List.not_mem_nil, or_false, Prod.mk.injEq] at h
    rcases h with ⟨rfl, rfl⟩ | ⟨rfl, rfl⟩ <;> exact ⟨0, rfl⟩
  · match i, e with
    | 0, e => cases e; exact pw_holds hp
    | 1, e => cases e; exact fm_holds hf
    | 2, e => cases e; exact ap2
    | 3, e => cases e; exact ap3
    | k + 4, e => cases e
  · have := lawIn_no _ rfl i c e
    rw [this] at ho
    cases ho

set_option maxRecDepth 100000 in
theorem contract (H : Type) (enc : TypeId × Value → H) (W : World) (base : Nat) (args : Array Value) (ds gs : List (DataW H)) (before : List MemPlace)
    (hval : ∀ (j : Nat) t v, fF.params[j]? = some t → args[j]? = some v → Value.okWide Tryz.prog W .any base t v)
    (hW : DataW.Whole enc Tryz.prog fF.params.toList Rows.alignTrueSpec.vars false W args.toList ds gs before) (hL : laidMetH Tryz.prog Rows.alignTrueRow.laid W) :
    Calls Tryz.prog fN args W fun e W' => ∃ v, e = .returned v ∧ Rows.alignTrueSpec.post enc Tryz.prog fF false true false false W args v W' := by
  have hW' := hW
  obtain ⟨p, q, hA0, hV, rfl, hfz, hnd⟩ := hW
  have hA : DataW.TrodAll enc Tryz.prog W 0 (fun _ => true) true fF.params.toList args.toList ds p := hA0
  have hps : fF.params = #[26] := by kernel_rfl
  rw [hps] at hA hval
  obtain ⟨v0, vs0, d0, ds0, p0, q0, hargs, rfl, rfl, h0, r0⟩ := trodAll_cons hA
  obtain ⟨rfl, rfl, rfl⟩ := trodAll_nil r0
  obtain rfl : args = #[v0] := by cases args; simp_all
  obtain ⟨g0, o0, u0, w0, e0, y0, z0, rfl, hg0, ho0, wg0, wo0, we0, wy0, wz0⟩ := open_train (hval 0 _ v0 rfl rfl) h0
  have hpow := pow10_at (W := W) hL
  have hfor := forms_at (W := W) hL
  refine (run W g0 o0 u0 w0 e0 y0 z0 hg0 ho0 wg0 wo0 we0 wy0 wz0 hpow hfor).mono fun e W' ⟨he, hB⟩ => ?_
  subst he
  exact ⟨_, rfl, law_post rfl hW' rfl (by kernel_rfl) (fun t ht => by
    rw [hps] at ht
    simp only [List.mem_cons, List.not_mem_nil, or_false] at ht
    rcases ht with rfl <;> exact ⟨by kernel_rfl, of_decide_eq_true (by kernel_rfl)⟩) hB⟩

abbrev wargs : Array Value := #[.agg #[.slice none 0 0, .slice none 0 0, .int .u8 0, .int .u8 0, .int .u16 0]]
theorem laid_met (os : Os) : laidMetH Tryz.prog Rows.alignTrueRow.laid ((laidW os).forCall (fun _ _ => 0) ⟨#[], wargs, []⟩).memory :=
  laidMetH_of_parts3 (fuel := 8) (laidMet_of_run' 8 (by kernel_rfl) (by kernel_rfl)) (by kernel_rfl) (by kernel_rfl)
theorem reads (os : Os) {H : Type} (enc : TypeId × Value → H) : ∃ places, DataW.whole enc Tryz.prog ((laidW os).forCall (fun _ _ => 0) ⟨#[], wargs, []⟩).memory fF.params.toList Rows.alignTrueSpec.vars false wargs.toList 8 = some ([.agg [.nil, .nil, .lit (.int .u8 0), .lit (.int .u8 0), .lit (.int .u16 0)]], [], places) :=
  ⟨[], by kernel_rfl⟩

set_option maxRecDepth 100000 in
theorem lifted (os : Os) (started : os.Started) (H : Type) (enc : TypeId × Value → H) (F : Stop.Interp) :
    ReturnsInHanded {} Tryz.checked os fN .any ((OpenSpec.ofChange Rows.alignTrueSpec).preRow enc Tryz.prog fF Rows.alignTrueRow.domain false Rows.alignTrueRow.laid) (((OpenSpec.ofChange Rows.alignTrueSpec).at F).post enc Tryz.prog fF false true false false) := by
  obtain ⟨places, hx⟩ := reads os enc
  refine returnsInHanded_of_row (C := Tryz.checked) (s := OpenSpec.ofChange Rows.alignTrueSpec) ownGodebug started (by kernel_rfl) Tryz.func3
    (witness_row_at (enc := enc) (C := Tryz.checked) false (laidW os) wargs rfl (by kernel_rfl) (by kernel_rfl) (by kernel_rfl)
      (OpenSpec.preRow_of_cond 8 hx (by kernel_rfl) (fun k hk => by cases hk) (by kernel_rfl) (laid_met os))) ?_
  intro W base args ds gs before hval hW _ _ _ hL _ _
  exact contract H enc W base args ds gs before hval hW hL

theorem said : Rows.AlignTrueSaid :=
  OpenClaim.holds_of_cond fN fF rfl rfl rfl rfl rfl rfl rfl ⟨rfl, rfl, rfl, rfl, rfl⟩ rfl rfl rfl rfl rfl (by kernel_rfl) Tryz.func3 (by kernel_rfl)
    (of_decide_eq_true (by kernel_rfl)) (by unfold Func.isWrapper; first | (rw [if_pos (by decide +kernel)]; kernel_rfl) | (rw [if_neg (by decide +kernel)]; exact ⟨rfl, rfl⟩))
    (fun os started H enc _ F => by rw [OpenClaim.pre_eq_preRow]; exact lifted os started H enc F)

theorem plain (f : FuncId) (fn : Func) (hf : Tryz.pinned.checked.prog.funcNamed fF.name = some f) (hfn : Tryz.pinned.checked.prog.funcs[f]? = some fn) :
    false = Tryz.pinned.checked.prog.looks [] ∧ ∀ (j : Nat) t, fn.params[j]? = some t → Tryz.pinned.checked.prog.wantsStandIn t = false := by
  obtain rfl : f = fN := Option.some.inj ((show Tryz.prog.funcNamed fF.name = some fN by kernel_rfl).symm.trans hf) |>.symm
  obtain rfl : fn = fF := (Option.some.inj (Tryz.func3.symm.trans hfn)).symm
  refine ⟨by kernel_rfl, fun j t ht => ?_⟩
  have hps : fF.params = #[26] := by kernel_rfl
  rw [hps] at ht
  have hm : t ∈ [26] := by have := Array.mem_of_getElem? ht; simpa using this
  simp only [List.mem_cons, List.not_mem_nil, or_false] at hm
  rcases hm with rfl
  · exact (show Tryz.prog.wantsStandIn 26 = false by kernel_rfl)

end cTrue

/-- AlignTrue: its card. -/
theorem alignTrue_card : Rows.AlignTrueCardSaid :=
  Claim7.holds_tied_plain_at .later [] _ _ _ _ cTrue.said (fun _ h => by cases h) (by kernel_rfl) (fun _ h => by cases h) alignTrue_row_tie rfl ⟨rfl, rfl⟩ (by kernel_rfl) rfl cTrue.plain (by kernel_rfl)

end Go.Proofs.YtpfafdnempehkaaGreatDoor
