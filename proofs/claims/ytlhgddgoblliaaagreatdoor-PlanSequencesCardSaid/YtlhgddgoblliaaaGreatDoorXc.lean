/- PlanSequences holds for every input: the call returns true, and each argument reads behind it as it read before. -/
import Derived.Test.YtlhgddgoblliaaaGreatDoorXb
import Derived.Test.YtlhgddgoblliaaaGreatDoorVm
import Derived.Test.YtlhgddgoblliaaaGreatDoorPs
import Derived.Test.YtlhgddgoblliaaaGreatDoorVy
set_option linter.unusedVariables false
set_option linter.unusedSimpArgs false
namespace Go.Proofs.YtlhgddgoblliaaaGreatDoor
open Go.RowKit Go.Sym
open Go.ChangeShapes Go.WideShapes Go.ChangeAt
namespace cSequences

abbrev fN : FuncId := 3
noncomputable abbrev fF : Func := Tryz.f3
set_option maxRecDepth 20000 in
theorem run (W : World) (l0 : List Jb) (u0 fk0 : Value) (hj0 : JobRd W u0 fk0 l0) (K1 : List Int) (x1 y1 : Int) (D1 : List Int) (u1 w1 : Value) (hs1 : Rd W W.heap.size 1 u1 K1.length (K1.map (Value.int .i64))) (ht1 : Rd W W.heap.size 1 w1 D1.length (D1.map (Value.int .i64))) (hp : ∃ t fr, W.heap[4]? = some (.cells (powZ.map fun z => Value.int .u64 z).toArray t fr)) (hf : ∃ t fr, W.heap[0]? = some (.cells kindsV.toArray t fr)) :
    Calls Tryz.prog fN #[u0, .agg #[u1, .int .i64 x1, .int .i64 y1, w1]] W fun e w' => e = .returned (.bool true) ∧ Below W.heap.size W w' := by
  obtain ⟨ap2, ap3, dp2⟩ := hj0.2 (lawEnv [u0, fk0, u1, w1]) 2 3 rfl rfl
  obtain ⟨ap4, dp4⟩ := ro_of_rd (ρ := lawEnv [u0, fk0, u1, w1]) (k := 4) hs1 rfl (insC_cells _)
  obtain ⟨ap5, dp5⟩ := ro_of_rd (ρ := lawEnv [u0, fk0, u1, w1]) (k := 5) ht1 rfl (insC_cells _)
  have hd : AV.denL (lawEnv [u0, fk0, u1, w1]) [.sl 2 l0.length, .agg [.sl 4 K1.length, i64 x1, i64 y1, .sl 5 D1.length]] = some [u0, .agg #[u1, .int .i64 x1, .int .i64 y1, w1]] := by
    simp only [AV.den] at dp2 dp4 dp5
    simp only [AV.denL, AV.den, dp2, dp4, dp5, listO, Option.map_some]
  refine ((LawSq_s l0 K1 D1 x1 y1 (hj0.1.1) (rd_len hs1) (rd_len ht1) hj0.1.2).2 (lawEnv [u0, fk0, u1, w1]) W _ (fun i L e => ?_) (fun g i h => ?_) ⟨fun i c e => ?_, fun i c e ho => ?_⟩ hd).mono fun e w' h => law_done (lawIn_no _ rfl) h
  · match i, e with
    | 0, _ => rfl
    | 1, _ => rfl
    | 2, _ => rfl
    | 3, _ => rfl
    | 4, _ => rfl
    | 5, _ => rfl
    | k + 6, e => cases e
  · have h : (g, i) ∈ lawG := h
    simp only [List.mem_cons, List.not_mem_nil, or_false, Prod.mk.injEq] at h
    rcases h with ⟨rfl, rfl⟩ | ⟨rfl, rfl⟩ <;> exact ⟨0, rfl⟩
  · match i, e with
    | 0, e => cases e; exact pw_holds hp
    | 1, e => cases e; exact kd_holds hf
    | 2, e => cases e; exact ap2
    | 3, e => cases e; exact ap3
    | 4, e => cases e; exact ap4
    | 5, e => cases e; exact ap5
    | k + 6, e => cases e
  · have := lawIn_no _ rfl i c e
    rw [this] at ho
    cases ho

set_option maxRecDepth 100000 in
theorem contract (H : Type) (enc : TypeId × Value → H) (W : World) (base : Nat) (args : Array Value) (ds gs : List (DataW H)) (before : List MemPlace)
    (hval : ∀ (j : Nat) t v, fF.params[j]? = some t → args[j]? = some v → Value.okWide Tryz.prog W .any base t v)
    (hW : DataW.Whole enc Tryz.prog fF.params.toList Rows.planSequencesSpec.vars false W args.toList ds gs before) (hL : laidMetH Tryz.prog Rows.planSequencesRow.laid W) :
    Calls Tryz.prog fN args W fun e W' => ∃ v, e = .returned v ∧ Rows.planSequencesSpec.post enc Tryz.prog fF false true false false W args v W' := by
  have hW' := hW
  obtain ⟨p, q, hA0, hV, rfl, hfz, hnd⟩ := hW
  have hA : DataW.TrodAll enc Tryz.prog W 0 (fun _ => true) true fF.params.toList args.toList ds p := hA0
  have hps : fF.params = #[22, 27] := by kernel_rfl
  rw [hps] at hA hval
  obtain ⟨v0, vs0, d0, ds0, p0, q0, hargs, rfl, rfl, h0, r0⟩ := trodAll_cons hA
  obtain ⟨v1, vs1, d1, ds1, p1, q1, rfl, rfl, rfl, h1, r1⟩ := trodAll_cons r0
  obtain ⟨rfl, rfl, rfl⟩ := trodAll_nil r1
  obtain rfl : args = #[v0, v1] := by cases args; simp_all
  obtain ⟨l0, fk0, hj0⟩ := open_jobs (hval 0 _ v0 rfl rfl) h0
  obtain ⟨K1, x1, y1, D1, u1, w1, rfl, hs1, ht1⟩ := open_days (hval 1 _ v1 rfl rfl) h1
  have hpow := pow10_at (W := W) hL
  have hfor := kinds_at (W := W) hL
  refine (run W l0 v0 fk0 hj0 K1 x1 y1 D1 u1 w1 hs1 ht1 hpow hfor).mono fun e W' ⟨he, hB⟩ => ?_
  subst he
  exact ⟨_, rfl, law_post rfl hW' rfl (by kernel_rfl) (fun t ht => by
    rw [hps] at ht
    simp only [List.mem_cons, List.not_mem_nil, or_false] at ht
    rcases ht with rfl | rfl <;> exact ⟨by kernel_rfl, of_decide_eq_true (by kernel_rfl)⟩) hB⟩

abbrev wargs : Array Value := #[.slice none 0 0, .agg #[.slice none 0 0, .int .i64 0, .int .i64 0, .slice none 0 0]]
theorem laid_met (os : Os) : laidMet Tryz.prog Rows.planSequencesRow.laid ((laidW os).forCall (fun _ _ => 0) ⟨#[], wargs, []⟩).memory :=
  laidMet_of_run' 8 (by kernel_rfl) (by kernel_rfl)
theorem reads (os : Os) {H : Type} (enc : TypeId × Value → H) : ∃ places, DataW.whole enc Tryz.prog ((laidW os).forCall (fun _ _ => 0) ⟨#[], wargs, []⟩).memory fF.params.toList Rows.planSequencesSpec.vars false wargs.toList 8 = some ([.nil, .agg [.nil, .agg [.lit (.int .i64 0), .lit (.int .i64 0)], .nil]], [], places) :=
  ⟨[], by kernel_rfl⟩

set_option maxRecDepth 100000 in
theorem lifted (os : Os) (started : os.Started) (H : Type) (enc : TypeId × Value → H) (F : Stop.Interp) :
    ReturnsInHanded {} Tryz.checked os fN .any ((OpenSpec.ofChange Rows.planSequencesSpec).preRow enc Tryz.prog fF Rows.planSequencesRow.domain false Rows.planSequencesRow.laid) (((OpenSpec.ofChange Rows.planSequencesSpec).at F).post enc Tryz.prog fF false true false false) := by
  obtain ⟨places, hx⟩ := reads os enc
  refine returnsInHanded_of_row (C := Tryz.checked) (s := OpenSpec.ofChange Rows.planSequencesSpec) ownGodebug started (by kernel_rfl) Tryz.func3
    (witness_row_at (enc := enc) (C := Tryz.checked) false (laidW os) wargs rfl (by kernel_rfl) (by kernel_rfl) (by kernel_rfl)
      (OpenSpec.preRow_of_cond 8 hx (by kernel_rfl) (fun k hk => by cases hk) (by kernel_rfl) (laid_met os))) ?_
  intro W base args ds gs before hval hW _ _ _ hL _ _
  exact contract H enc W base args ds gs before hval hW hL

theorem jPlace : (Rows.planSequencesRow.inPlace == Tryz.prog.inPlace fN) = true := by kernel_rfl
theorem jUnfollowed : (Rows.planSequencesRow.unfollowed == Tryz.prog.unfollowed fN) = true := by kernel_rfl
theorem jRecurses : (Rows.planSequencesRow.recurses == Tryz.prog.recurses fN) = true := by kernel_rfl
theorem jNamed : (Rows.planSequencesRow.named == Tryz.prog.varsNamed fN) = true := by kernel_rfl
theorem closed : joinedFacts Tryz.prog fN fF Rows.planSequencesSpec Rows.planSequencesRow = true := by
  unfold joinedFacts
  repeat' (with_reducible refine and_tt ?_ ?_)
  · kernel_rfl
  · exact laidOutP
  · exact mapsRowedP
  · kernel_rfl
  · kernel_rfl
  · kernel_rfl
  · kernel_rfl
  · kernel_rfl
  · kernel_rfl
  · exact jPlace
  · exact jUnfollowed
  · exact jRecurses
  · exact jNamed
  · kernel_rfl
  · kernel_rfl
  · kernel_rfl
  · kernel_rfl
  · kernel_rfl
  · kernel_rfl
  · kernel_rfl
  · kernel_rfl
  · kernel_rfl
  · exact keysP
  · kernel_rfl
  · exact heardP
  · exact mayP
  · exact liftsP
  · exact makeP
  · kernel_rfl
  · kernel_rfl
  · kernel_rfl
  · kernel_rfl
theorem jWf : Rows.planSequencesRow.wfByText (OpenSpec.ofChange Rows.planSequencesSpec) = true := by kernel_rfl
theorem jGoes : false = Rows.planSequencesRow.goesBy Tryz.prog := by kernel_rfl
set_option maxRecDepth 100000 in
theorem said : Rows.PlanSequencesSaid :=
  OpenClaim.holds_of_cond fN fF rfl rfl rfl rfl rfl rfl rfl ⟨rfl, rfl, rfl, rfl, rfl⟩ rfl rfl rfl rfl rfl (by kernel_rfl) Tryz.func3 closed
    (of_decide_eq_true (by kernel_rfl)) (by unfold Func.isWrapper; first | (rw [if_pos (by decide +kernel)]; kernel_rfl) | (rw [if_neg (by decide +kernel)]; exact ⟨rfl, rfl⟩))
    (fun os started H enc _ F => by rw [OpenClaim.pre_eq_preRow]; exact lifted os started H enc F)

theorem plain (f : FuncId) (fn : Func) (hf : Tryz.pinned.checked.prog.funcNamed fF.name = some f) (hfn : Tryz.pinned.checked.prog.funcs[f]? = some fn) :
    false = Tryz.pinned.checked.prog.looks [] ∧ ∀ (j : Nat) t, fn.params[j]? = some t → Tryz.pinned.checked.prog.wantsStandIn t = false := by
  obtain rfl : f = fN := Option.some.inj ((show Tryz.prog.funcNamed fF.name = some fN by kernel_rfl).symm.trans hf) |>.symm
  obtain rfl : fn = fF := (Option.some.inj (Tryz.func3.symm.trans hfn)).symm
  refine ⟨by kernel_rfl, fun j t ht => ?_⟩
  have hps : fF.params = #[22, 27] := by kernel_rfl
  rw [hps] at ht
  have hm : t ∈ [22, 27] := by have := Array.mem_of_getElem? ht; simpa using this
  simp only [List.mem_cons, List.not_mem_nil, or_false] at hm
  rcases hm with rfl | rfl
  · exact (show Tryz.prog.wantsStandIn 22 = false by kernel_rfl)
  · exact (show Tryz.prog.wantsStandIn 27 = false by kernel_rfl)

end cSequences

set_option maxRecDepth 100000 in
/-- PlanSequences: its card. -/
theorem planSequences_card : Rows.PlanSequencesCardSaid :=
  Claim7.holds_tied_plain_at .later [] _ _ _ _ cSequences.said (fun _ h => by cases h) cSequences.jWf (fun _ h => by cases h) planSequences_row_tie rfl ⟨rfl, rfl⟩ (by kernel_rfl) rfl cSequences.plain cSequences.jGoes

end Go.Proofs.YtlhgddgoblliaaaGreatDoor
