/- PlanSmooth holds for every input: the call returns true, and each argument reads behind it as it read before. -/
import Derived.Test.YtccddhoeampdjaaGreatDoorUl
import Derived.Test.YtccddhoeampdjaaGreatDoorPs
import Derived.Test.YtccddhoeampdjaaGreatDoorUk
set_option linter.unusedVariables false
set_option linter.unusedSimpArgs false
namespace Go.Proofs.YtccddhoeampdjaaGreatDoor
open Go.RowKit Go.Sym
open Go.ChangeShapes Go.WideShapes Go.ChangeAt
namespace cSmooth

abbrev fN : FuncId := 12
noncomputable abbrev fF : Func := Tryz.f12
set_option maxRecDepth 20000 in
theorem run (W : World) (A0 : Nat → Int) (hq0 : ∀ k, -128 ≤ A0 k ∧ A0 k ≤ 127) (A1 : Nat → Int) (hq1 : ∀ k, -128 ≤ A1 k ∧ A1 k ≤ 127) (x2 y2 z2 u2 : Int) (hx2 : 0 ≤ x2 ∧ x2 ≤ 255) (hy2 : 0 ≤ y2 ∧ y2 ≤ 255) (hz2 : 0 ≤ z2 ∧ z2 ≤ 255) (hu2 : 0 ≤ u2 ∧ u2 ≤ 255) (hp : ∃ t fr, W.heap[2]? = some (.cells (powZ.map fun z => Value.int .u64 z).toArray t fr)) (hf : ∃ t fr, W.heap[0]? = some (.cells kindsV.toArray t fr)) :
    Calls Tryz.prog fN #[.agg #[.int .i8 (A0 0), .int .i8 (A0 1), .int .i8 (A0 2), .int .i8 (A0 3), .int .i8 (A0 4), .int .i8 (A0 5), .int .i8 (A0 6), .int .i8 (A0 7)], .agg #[.int .i8 (A1 0), .int .i8 (A1 1), .int .i8 (A1 2), .int .i8 (A1 3), .int .i8 (A1 4), .int .i8 (A1 5), .int .i8 (A1 6), .int .i8 (A1 7)], .agg #[.int .u8 x2, .int .u8 y2, .int .u8 z2, .int .u8 u2]] W fun e w' => e = .returned (.bool true) ∧ Below W.heap.size W w' := by

  have hd : AV.denL (lawEnv []) [.agg [.lit (.int .i8 (A0 0)), .lit (.int .i8 (A0 1)), .lit (.int .i8 (A0 2)), .lit (.int .i8 (A0 3)), .lit (.int .i8 (A0 4)), .lit (.int .i8 (A0 5)), .lit (.int .i8 (A0 6)), .lit (.int .i8 (A0 7))], .agg [.lit (.int .i8 (A1 0)), .lit (.int .i8 (A1 1)), .lit (.int .i8 (A1 2)), .lit (.int .i8 (A1 3)), .lit (.int .i8 (A1 4)), .lit (.int .i8 (A1 5)), .lit (.int .i8 (A1 6)), .lit (.int .i8 (A1 7))], .agg [.lit (.int .u8 x2), .lit (.int .u8 y2), .lit (.int .u8 z2), .lit (.int .u8 u2)]] = some [.agg #[.int .i8 (A0 0), .int .i8 (A0 1), .int .i8 (A0 2), .int .i8 (A0 3), .int .i8 (A0 4), .int .i8 (A0 5), .int .i8 (A0 6), .int .i8 (A0 7)], .agg #[.int .i8 (A1 0), .int .i8 (A1 1), .int .i8 (A1 2), .int .i8 (A1 3), .int .i8 (A1 4), .int .i8 (A1 5), .int .i8 (A1 6), .int .i8 (A1 7)], .agg #[.int .u8 x2, .int .u8 y2, .int .u8 z2, .int .u8 u2]] := by
    simp only [AV.denL, AV.den, listO, Option.map_some]
  refine ((LawSm_s A0 A1 x2 y2 z2 u2 hq0 hq1 hx2 hy2 hz2 hu2).2 (lawEnv []) W _ (fun i L e => ?_) (fun g i h => ?_) ⟨fun i c e => ?_, fun i c e ho => ?_⟩ hd).mono fun e w' h => law_done (lawIn_no _ rfl) h
  · match i, e with
    | 0, _ => rfl
    | 1, _ => rfl
    | k + 2, e => cases e
  · have h : (g, i) ∈ lawG := h
    simp only [List.mem_cons, List.not_mem_nil, or_false, Prod.mk.injEq] at h
    rcases h with ⟨rfl, rfl⟩ | ⟨rfl, rfl⟩ <;> exact ⟨0, rfl⟩
  · match i, e with
    | 0, e => cases e; exact pw_holds hp
    | 1, e => cases e; exact kd_holds hf

    | k + 2, e => cases e
  · have := lawIn_no _ rfl i c e
    rw [this] at ho
    cases ho

set_option maxRecDepth 100000 in
theorem contract (H : Type) (enc : TypeId × Value → H) (W : World) (base : Nat) (args : Array Value) (ds gs : List (DataW H)) (before : List MemPlace)
    (hval : ∀ (j : Nat) t v, fF.params[j]? = some t → args[j]? = some v → Value.okWide Tryz.prog W .any base t v)
    (hW : DataW.Whole enc Tryz.prog fF.params.toList Rows.planSmoothSpec.vars false W args.toList ds gs before) (hL : laidMetH Tryz.prog Rows.planSmoothRow.laid W) :
    Calls Tryz.prog fN args W fun e W' => ∃ v, e = .returned v ∧ Rows.planSmoothSpec.post enc Tryz.prog fF false true false false W args v W' := by
  have hW' := hW
  obtain ⟨p, q, hA0, hV, rfl, hfz, hnd⟩ := hW
  have hA : DataW.TrodAll enc Tryz.prog W 0 (fun _ => true) true fF.params.toList args.toList ds p := hA0
  have hps : fF.params = #[136, 136, 124] := by kernel_rfl
  rw [hps] at hA hval
  obtain ⟨v0, vs0, d0, ds0, p0, q0, hargs, rfl, rfl, h0, r0⟩ := trodAll_cons hA
  obtain ⟨v1, vs1, d1, ds1, p1, q1, rfl, rfl, rfl, h1, r1⟩ := trodAll_cons r0
  obtain ⟨v2, vs2, d2, ds2, p2, q2, rfl, rfl, rfl, h2, r2⟩ := trodAll_cons r1
  obtain ⟨rfl, rfl, rfl⟩ := trodAll_nil r2
  obtain rfl : args = #[v0, v1, v2] := by cases args; simp_all
  obtain ⟨A0, rfl, hq0⟩ := open_i8x8 (.inr ⟨_, _, Tryz.underlying136⟩) (by kernel_rfl) (hval 0 _ v0 rfl rfl) h0
  obtain ⟨A1, rfl, hq1⟩ := open_i8x8 (.inr ⟨_, _, Tryz.underlying136⟩) (by kernel_rfl) (hval 1 _ v1 rfl rfl) h1
  obtain ⟨x2, y2, z2, u2, rfl, hx2, hy2, hz2, hu2⟩ := open_u8x4 (.inr ⟨_, _, Tryz.underlying124⟩) (by kernel_rfl) (hval 2 _ v2 rfl rfl) h2
  have hpow := pow10_at (W := W) hL
  have hfor := kinds_at (W := W) hL
  refine (run W A0 hq0 A1 hq1 x2 y2 z2 u2 hx2 hy2 hz2 hu2 hpow hfor).mono fun e W' ⟨he, hB⟩ => ?_
  subst he
  exact ⟨_, rfl, law_post rfl hW' rfl (by kernel_rfl) (fun t ht => by
    rw [hps] at ht
    simp only [List.mem_cons, List.not_mem_nil, or_false] at ht
    rcases ht with rfl | rfl | rfl <;> exact ⟨by kernel_rfl, of_decide_eq_true (by kernel_rfl)⟩) hB⟩

abbrev wargs : Array Value := #[.agg #[.int .i8 0, .int .i8 0, .int .i8 0, .int .i8 0, .int .i8 0, .int .i8 0, .int .i8 0, .int .i8 0], .agg #[.int .i8 0, .int .i8 0, .int .i8 0, .int .i8 0, .int .i8 0, .int .i8 0, .int .i8 0, .int .i8 0], .agg #[.int .u8 0, .int .u8 0, .int .u8 0, .int .u8 0]]
theorem laid_met (os : Os) : laidMet Tryz.prog Rows.planSmoothRow.laid ((laidW os).forCall (fun _ _ => 0) ⟨#[], wargs, []⟩).memory :=
  laidMet_of_run' 8 (by kernel_rfl) (by kernel_rfl)
theorem reads (os : Os) {H : Type} (enc : TypeId × Value → H) : ∃ places, DataW.whole enc Tryz.prog ((laidW os).forCall (fun _ _ => 0) ⟨#[], wargs, []⟩).memory fF.params.toList Rows.planSmoothSpec.vars false wargs.toList 8 = some ([.agg [.lit (.int .i8 0), .lit (.int .i8 0), .lit (.int .i8 0), .lit (.int .i8 0), .lit (.int .i8 0), .lit (.int .i8 0), .lit (.int .i8 0), .lit (.int .i8 0)], .agg [.lit (.int .i8 0), .lit (.int .i8 0), .lit (.int .i8 0), .lit (.int .i8 0), .lit (.int .i8 0), .lit (.int .i8 0), .lit (.int .i8 0), .lit (.int .i8 0)], .agg [.lit (.int .u8 0), .lit (.int .u8 0), .lit (.int .u8 0), .lit (.int .u8 0)]], [], places) :=
  ⟨[], by kernel_rfl⟩

set_option maxRecDepth 100000 in
theorem lifted (os : Os) (started : os.Started) (H : Type) (enc : TypeId × Value → H) (F : Stop.Interp) :
    ReturnsInHanded {} Tryz.checked os fN .any ((OpenSpec.ofChange Rows.planSmoothSpec).preRow enc Tryz.prog fF Rows.planSmoothRow.domain false Rows.planSmoothRow.laid) (((OpenSpec.ofChange Rows.planSmoothSpec).at F).post enc Tryz.prog fF false true false false) := by
  obtain ⟨places, hx⟩ := reads os enc
  refine returnsInHanded_of_row (C := Tryz.checked) (s := OpenSpec.ofChange Rows.planSmoothSpec) ownGodebug started (by kernel_rfl) Tryz.func12
    (witness_row_at (enc := enc) (C := Tryz.checked) false (laidW os) wargs rfl (by kernel_rfl) (by kernel_rfl) (by kernel_rfl)
      (OpenSpec.preRow_of_cond 8 hx (by kernel_rfl) (fun k hk => by cases hk) (by kernel_rfl) (laid_met os))) ?_
  intro W base args ds gs before hval hW _ _ _ hL _ _
  exact contract H enc W base args ds gs before hval hW hL

theorem jPlace : (Rows.planSmoothRow.inPlace == Tryz.prog.inPlace fN) = true := by kernel_rfl
theorem jUnfollowed : (Rows.planSmoothRow.unfollowed == Tryz.prog.unfollowed fN) = true := by kernel_rfl
theorem jRecurses : (Rows.planSmoothRow.recurses == Tryz.prog.recurses fN) = true := by kernel_rfl
theorem jNamed : (Rows.planSmoothRow.named == Tryz.prog.varsNamed fN) = true := by kernel_rfl
theorem closed : joinedFacts Tryz.prog fN fF Rows.planSmoothSpec Rows.planSmoothRow = true := by
  unfold joinedFacts
  repeat' (with_reducible refine and_tt ?_ ?_)
  · kernel_rfl
  · exact laidOutP
  · exact mapsRowedP
  · kernel_rfl
  · kernel_rfl
  · kernel_rfl
  · kernel_rfl
  · kernel_rfl
  · kernel_rfl
  · exact jPlace
  · exact jUnfollowed
  · exact jRecurses
  · exact jNamed
  · kernel_rfl
  · kernel_rfl
  · kernel_rfl
  · kernel_rfl
  · kernel_rfl
  · kernel_rfl
  · kernel_rfl
  · kernel_rfl
  · kernel_rfl
  · exact keysP
  · kernel_rfl
  · exact heardP
  · exact mayP
  · exact liftsP
  · exact makeP
  · kernel_rfl
  · kernel_rfl
  · kernel_rfl
  · kernel_rfl
theorem jWf : Rows.planSmoothRow.wfByText (OpenSpec.ofChange Rows.planSmoothSpec) = true := by kernel_rfl
theorem jGoes : false = Rows.planSmoothRow.goesBy Tryz.prog := by kernel_rfl
set_option maxRecDepth 100000 in
theorem said : Rows.PlanSmoothSaid :=
  OpenClaim.holds_of_cond fN fF rfl rfl rfl rfl rfl rfl rfl ⟨rfl, rfl, rfl, rfl, rfl⟩ rfl rfl rfl rfl rfl (by kernel_rfl) Tryz.func12 closed
    (of_decide_eq_true (by kernel_rfl)) (by unfold Func.isWrapper; first | (rw [if_pos (by decide +kernel)]; kernel_rfl) | (rw [if_neg (by decide +kernel)]; exact ⟨rfl, rfl⟩))
    (fun os started H enc _ F => by rw [OpenClaim.pre_eq_preRow]; exact lifted os started H enc F)

theorem plain (f : FuncId) (fn : Func) (hf : Tryz.pinned.checked.prog.funcNamed fF.name = some f) (hfn : Tryz.pinned.checked.prog.funcs[f]? = some fn) :
    false = Tryz.pinned.checked.prog.looks [] ∧ ∀ (j : Nat) t, fn.params[j]? = some t → Tryz.pinned.checked.prog.wantsStandIn t = false := by
  obtain rfl : f = fN := Option.some.inj ((show Tryz.prog.funcNamed fF.name = some fN by kernel_rfl).symm.trans hf) |>.symm
  obtain rfl : fn = fF := (Option.some.inj (Tryz.func12.symm.trans hfn)).symm
  refine ⟨by kernel_rfl, fun j t ht => ?_⟩
  have hps : fF.params = #[136, 136, 124] := by kernel_rfl
  rw [hps] at ht
  have hm : t ∈ [136, 136, 124] := by have := Array.mem_of_getElem? ht; simpa using this
  simp only [List.mem_cons, List.not_mem_nil, or_false] at hm
  rcases hm with rfl | rfl | rfl
  · exact (show Tryz.prog.wantsStandIn 136 = false by kernel_rfl)
  · exact (show Tryz.prog.wantsStandIn 136 = false by kernel_rfl)
  · exact (show Tryz.prog.wantsStandIn 124 = false by kernel_rfl)

end cSmooth

set_option maxRecDepth 100000 in
/-- PlanSmooth: its card. -/
theorem planSmooth_card : Rows.PlanSmoothCardSaid :=
  Claim7.holds_tied_plain_at .later [] _ _ _ _ cSmooth.said (fun _ h => by cases h) cSmooth.jWf (fun _ h => by cases h) planSmooth_row_tie rfl ⟨rfl, rfl⟩ (by kernel_rfl) rfl cSmooth.plain cSmooth.jGoes

end Go.Proofs.YtccddhoeampdjaaGreatDoor
