/- PlanDays holds for every input: the call returns true, and each argument reads behind it as it read before. -/
import Derived.Test.YtlhgddgoblliaaaGreatDoorVm
import Derived.Test.YtlhgddgoblliaaaGreatDoorPs
import Derived.Test.YtlhgddgoblliaaaGreatDoorXd
set_option linter.unusedVariables false
set_option linter.unusedSimpArgs false
namespace Go.Proofs.YtlhgddgoblliaaaGreatDoor
open Go.RowKit Go.Sym
open Go.ChangeShapes Go.WideShapes Go.ChangeAt
namespace cDays

abbrev fN : FuncId := 4
noncomputable abbrev fF : Func := Tryz.f4
set_option maxRecDepth 20000 in
theorem run (W : World) (l0 : List Jb) (u0 fk0 : Value) (hj0 : JobRd W u0 fk0 l0) (l1 : List Int) (u1 : Value) (hl1 : Rd W W.heap.size 1 u1 l1.length (l1.map (Value.int .i64))) (x2 y2 : Int) (hp : ∃ t fr, W.heap[4]? = some (.cells (powZ.map fun z => Value.int .u64 z).toArray t fr)) (hf : ∃ t fr, W.heap[0]? = some (.cells kindsV.toArray t fr)) :
    Calls Tryz.prog fN #[u0, u1, .agg #[.int .i64 x2, .int .i64 y2]] W fun e w' => e = .returned (.bool true) ∧ Below W.heap.size W w' := by
  obtain ⟨ap2, ap3, dp2⟩ := hj0.2 (lawEnv [u0, fk0, u1]) 2 3 rfl rfl
  obtain ⟨ap4, dp4⟩ := ro_of_rd (ρ := lawEnv [u0, fk0, u1]) (k := 4) hl1 rfl (insC_cells _)
  have hd : AV.denL (lawEnv [u0, fk0, u1]) [.sl 2 l0.length, .sl 4 l1.length, .agg [i64 x2, i64 y2]] = some [u0, u1, .agg #[.int .i64 x2, .int .i64 y2]] := by
    simp only [AV.den] at dp2 dp4
    simp only [AV.denL, AV.den, dp2, dp4, listO, Option.map_some]
  refine ((LawDy_s l0 l1 x2 y2 (hj0.1.1) (rd_len hl1) hj0.1.2).2 (lawEnv [u0, fk0, u1]) W _ (fun i L e => ?_) (fun g i h => ?_) ⟨fun i c e => ?_, fun i c e ho => ?_⟩ hd).mono fun e w' h => law_done (lawIn_no _ rfl) h
  · match i, e with
    | 0, _ => rfl
    | 1, _ => rfl
    | 2, _ => rfl
    | 3, _ => rfl
    | 4, _ => rfl
    | k + 5, e => cases e
  · have h : (g, i) ∈ lawG := h
    simp only [List.mem_cons, List.not_mem_nil, or_false, Prod.mk.injEq] at h
    rcases h with ⟨rfl, rfl⟩ | ⟨rfl, rfl⟩ <;> exact ⟨0, rfl⟩
  · match i, e with
    | 0, e => cases e; exact pw_holds hp
    | 1, e => cases e; exact kd_holds hf
    | 2, e => cases e; exact ap2
    | 3, e => cases e; exact ap3
    | 4, e => cases e; exact ap4
    | k + 5, e => cases e
  · have := lawIn_no _ rfl i c e
    rw [this] at ho
    cases ho

set_option maxRecDepth 100000 in
theorem contract (H : Type) (enc : TypeId × Value → H) (W : World) (base : Nat) (args : Array Value) (ds gs : List (DataW H)) (before : List MemPlace)
    (hval : ∀ (j : Nat) t v, fF.params[j]? = some t → args[j]? = some v → Value.okWide Tryz.prog W .any base t v)
    (hW : DataW.Whole enc Tryz.prog fF.params.toList Rows.planDaysSpec.vars false W args.toList ds gs before) (hL : laidMetH Tryz.prog Rows.planDaysRow.laid W) :
    Calls Tryz.prog fN args W fun e W' => ∃ v, e = .returned v ∧ Rows.planDaysSpec.post enc Tryz.prog fF false true false false W args v W' := by
  have hW' := hW
  obtain ⟨p, q, hA0, hV, rfl, hfz, hnd⟩ := hW
  have hA : DataW.TrodAll enc Tryz.prog W 0 (fun _ => true) true fF.params.toList args.toList ds p := hA0
  have hps : fF.params = #[22, 23, 25] := by kernel_rfl
  rw [hps] at hA hval
  obtain ⟨v0, vs0, d0, ds0, p0, q0, hargs, rfl, rfl, h0, r0⟩ := trodAll_cons hA
  obtain ⟨v1, vs1, d1, ds1, p1, q1, rfl, rfl, rfl, h1, r1⟩ := trodAll_cons r0
  obtain ⟨v2, vs2, d2, ds2, p2, q2, rfl, rfl, rfl, h2, r2⟩ := trodAll_cons r1
  obtain ⟨rfl, rfl, rfl⟩ := trodAll_nil r2
  obtain rfl : args = #[v0, v1, v2] := by cases args; simp_all
  obtain ⟨l0, fk0, hj0⟩ := open_jobs (hval 0 _ v0 rfl rfl) h0
  obtain ⟨l1, hl1⟩ := open_ints1 Tryz.underlying23 (by kernel_rfl) (by kernel_rfl) (hval 1 _ v1 rfl rfl) h1
  obtain ⟨x2, y2, rfl⟩ := open_z2 (.inl ⟨_, Tryz.underlying25⟩) (by kernel_rfl) (hval 2 _ v2 rfl rfl) h2
  have hpow := pow10_at (W := W) hL
  have hfor := kinds_at (W := W) hL
  refine (run W l0 v0 fk0 hj0 l1 v1 hl1 x2 y2 hpow hfor).mono fun e W' ⟨he, hB⟩ => ?_
  subst he
  exact ⟨_, rfl, law_post rfl hW' rfl (by kernel_rfl) (fun t ht => by
    rw [hps] at ht
    simp only [List.mem_cons, List.not_mem_nil, or_false] at ht
    rcases ht with rfl | rfl | rfl <;> exact ⟨by kernel_rfl, of_decide_eq_true (by kernel_rfl)⟩) hB⟩

abbrev wargs : Array Value := #[.slice none 0 0, .slice none 0 0, .agg #[.int .i64 0, .int .i64 0]]
theorem laid_met (os : Os) : laidMet Tryz.prog Rows.planDaysRow.laid ((laidW os).forCall (fun _ _ => 0) ⟨#[], wargs, []⟩).memory :=
  laidMet_of_run' 8 (by kernel_rfl) (by kernel_rfl)
theorem reads (os : Os) {H : Type} (enc : TypeId × Value → H) : ∃ places, DataW.whole enc Tryz.prog ((laidW os).forCall (fun _ _ => 0) ⟨#[], wargs, []⟩).memory fF.params.toList Rows.planDaysSpec.vars false wargs.toList 8 = some ([.nil, .nil, .agg [.lit (.int .i64 0), .lit (.int .i64 0)]], [], places) :=
  ⟨[], by kernel_rfl⟩

set_option maxRecDepth 100000 in
theorem lifted (os : Os) (started : os.Started) (H : Type) (enc : TypeId × Value → H) (F : Stop.Interp) :
    ReturnsInHanded {} Tryz.checked os fN .any ((OpenSpec.ofChange Rows.planDaysSpec).preRow enc Tryz.prog fF Rows.planDaysRow.domain false Rows.planDaysRow.laid) (((OpenSpec.ofChange Rows.planDaysSpec).at F).post enc Tryz.prog fF false true false false) := by
  obtain ⟨places, hx⟩ := reads os enc
  refine returnsInHanded_of_row (C := Tryz.checked) (s := OpenSpec.ofChange Rows.planDaysSpec) ownGodebug started (by kernel_rfl) Tryz.func4
    (witness_row_at (enc := enc) (C := Tryz.checked) false (laidW os) wargs rfl (by kernel_rfl) (by kernel_rfl) (by kernel_rfl)
      (OpenSpec.preRow_of_cond 8 hx (by kernel_rfl) (fun k hk => by cases hk) (by kernel_rfl) (laid_met os))) ?_
  intro W base args ds gs before hval hW _ _ _ hL _ _
  exact contract H enc W base args ds gs before hval hW hL

theorem jPlace : (Rows.planDaysRow.inPlace == Tryz.prog.inPlace fN) = true := by kernel_rfl
theorem jUnfollowed : (Rows.planDaysRow.unfollowed == Tryz.prog.unfollowed fN) = true := by kernel_rfl
theorem jRecurses : (Rows.planDaysRow.recurses == Tryz.prog.recurses fN) = true := by kernel_rfl
theorem jNamed : (Rows.planDaysRow.named == Tryz.prog.varsNamed fN) = true := by kernel_rfl
theorem closed : joinedFacts Tryz.prog fN fF Rows.planDaysSpec Rows.planDaysRow = true := by
  unfold joinedFacts
  repeat' (with_reducible refine and_tt ?_ ?_)
  · kernel_rfl
  · exact laidOutP
  · exact mapsRowedP
  · kernel_rfl
  · kernel_rfl
  · kernel_rfl
  · kernel_rfl
  · kernel_rfl
  · kernel_rfl
  · exact jPlace
  · exact jUnfollowed
  · exact jRecurses
  · exact jNamed
  · kernel_rfl
  · kernel_rfl
  · kernel_rfl
  · kernel_rfl
  · kernel_rfl
  · kernel_rfl
  · kernel_rfl
  · kernel_rfl
  · kernel_rfl
  · exact keysP
  · kernel_rfl
  · exact heardP
  · exact mayP
  · exact liftsP
  · exact makeP
  · kernel_rfl
  · kernel_rfl
  · kernel_rfl
  · kernel_rfl
theorem jWf : Rows.planDaysRow.wfByText (OpenSpec.ofChange Rows.planDaysSpec) = true := by kernel_rfl
theorem jGoes : false = Rows.planDaysRow.goesBy Tryz.prog := by kernel_rfl
set_option maxRecDepth 100000 in
theorem said : Rows.PlanDaysSaid :=
  OpenClaim.holds_of_cond fN fF rfl rfl rfl rfl rfl rfl rfl ⟨rfl, rfl, rfl, rfl, rfl⟩ rfl rfl rfl rfl rfl (by kernel_rfl) Tryz.func4 closed
    (of_decide_eq_true (by kernel_rfl)) (by unfold Func.isWrapper; first | (rw [if_pos (by decide +kernel)]; kernel_rfl) | (rw [if_neg (by decide +kernel)]; exact ⟨rfl, rfl⟩))
    (fun os started H enc _ F => by rw [OpenClaim.pre_eq_preRow]; exact lifted os started H enc F)

theorem plain (f : FuncId) (fn : Func) (hf : Tryz.pinned.checked.prog.funcNamed fF.name = some f) (hfn : Tryz.pinned.checked.prog.funcs[f]? = some fn) :
    false = Tryz.pinned.checked.prog.looks [] ∧ ∀ (j : Nat) t, fn.params[j]? = some t → Tryz.pinned.checked.prog.wantsStandIn t = false := by
  obtain rfl : f = fN := Option.some.inj ((show Tryz.prog.funcNamed fF.name = some fN by kernel_rfl).symm.trans hf) |>.symm
  obtain rfl : fn = fF := (Option.some.inj (Tryz.func4.symm.trans hfn)).symm
  refine ⟨by kernel_rfl, fun j t ht => ?_⟩
  have hps : fF.params = #[22, 23, 25] := by kernel_rfl
  rw [hps] at ht
  have hm : t ∈ [22, 23, 25] := by have := Array.mem_of_getElem? ht; simpa using this
  simp only [List.mem_cons, List.not_mem_nil, or_false] at hm
  rcases hm with rfl | rfl | rfl
  · exact (show Tryz.prog.wantsStandIn 22 = false by kernel_rfl)
  · exact (show Tryz.prog.wantsStandIn 23 = false by kernel_rfl)
  · exact (show Tryz.prog.wantsStandIn 25 = false by kernel_rfl)

end cDays

set_option maxRecDepth 100000 in
/-- PlanDays: its card. -/
theorem planDays_card : Rows.PlanDaysCardSaid :=
  Claim7.holds_tied_plain_at .later [] _ _ _ _ cDays.said (fun _ h => by cases h) cDays.jWf (fun _ h => by cases h) planDays_row_tie rfl ⟨rfl, rfl⟩ (by kernel_rfl) rfl cDays.plain cDays.jGoes

end Go.Proofs.YtlhgddgoblliaaaGreatDoor
