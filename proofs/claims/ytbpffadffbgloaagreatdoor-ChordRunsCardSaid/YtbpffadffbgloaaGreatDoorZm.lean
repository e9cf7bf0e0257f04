/- ChordRuns holds for every input: the call returns true, and each argument reads behind it as it read before. -/
import Derived.Test.YtbpffadffbgloaaGreatDoorCb
import Derived.Test.YtbpffadffbgloaaGreatDoorZl
import Derived.Test.YtbpffadffbgloaaGreatDoorZh
set_option linter.unusedVariables false
set_option linter.unusedSimpArgs false
namespace Go.Proofs.YtbpffadffbgloaaGreatDoor
open Go.RowKit Go.Sym
open Go.ChangeShapes Go.WideShapes Go.ChangeAt
namespace cRuns

abbrev fN : FuncId := 5
noncomputable abbrev fF : Func := Tryz.f5
theorem run (W : World) (t0 : Rn) (u0 w0 : Value) (hr0 : RdR W W.heap.size u0 w0 t0) (b1 a1 : Int) (hp : ∃ t fr, W.heap[0]? = some (.cells ([1, 0, 0, 1, -1, 0, 0, -1].map fun z => Value.int .i64 z).toArray t fr)) :
    Calls Tryz.prog fN #[.agg #[.string t0.name, .int .i64 t0.first, u0, w0], .agg #[.int .i64 b1, .int .i64 a1]] W fun e w' => e = .returned (.bool true) ∧ Below W.heap.size W w' := by

  obtain ⟨ap1, dp1⟩ := ro_of_rd (ρ := lawEnv [u0, w0]) (k := 1) hr0.1 rfl (flC_cells _)
  obtain ⟨ap2, dp2⟩ := ro_of_rd (ρ := lawEnv [u0, w0]) (k := 2) hr0.2 rfl (spC_cells _)
  have hd : AV.denL (lawEnv [u0, w0]) [rnA 1 2 t0, .agg [i64 b1, i64 a1]] = some [.agg #[.string t0.name, .int .i64 t0.first, u0, w0], .agg #[.int .i64 b1, .int .i64 a1]] := by
    simp only [AV.den] at dp1 dp2
    simp only [trA, rnA, AV.denL, AV.den, dp1, dp2, listO, Option.map_some]
  refine ((LRuns_s t0 b1 a1).2 (lawEnv [u0, w0]) W _ (fun i L e => ?_) (fun g i h => ?_) ⟨fun i c e => ?_, fun i c e ho => ?_⟩ hd).mono fun e w' h => law_done (lawIn_no _ rfl) h
  · match i, e with
    | 0, _ => rfl
    | 1, _ => rfl
    | 2, _ => rfl
    | k + 3, e => cases e
  · have h : (g, i) ∈ powG := h
    simp only [List.mem_cons, List.not_mem_nil, or_false, Prod.mk.injEq] at h
    obtain ⟨rfl, rfl⟩ := h
    exact ⟨0, rfl⟩
  · match i, e with
    | 0, e => cases e; exact pow_holds hp
    | 1, e => cases e; exact ap1
    | 2, e => cases e; exact ap2
    | k + 3, e => cases e
  · have := lawIn_no _ rfl i c e
    rw [this] at ho
    cases ho

set_option maxRecDepth 100000 in
theorem contract (H : Type) (enc : TypeId × Value → H) (W : World) (base : Nat) (args : Array Value) (ds gs : List (DataW H)) (before : List MemPlace)
    (hval : ∀ (j : Nat) t v, fF.params[j]? = some t → args[j]? = some v → Value.okWide Tryz.prog W .any base t v)
    (hW : DataW.Whole enc Tryz.prog fF.params.toList Rows.chordRunsSpec.vars false W args.toList ds gs before) (hL : laidMetH Tryz.prog Rows.chordRunsRow.laid W) :
    Calls Tryz.prog fN args W fun e W' => ∃ v, e = .returned v ∧ Rows.chordRunsSpec.post enc Tryz.prog fF false true false false W args v W' := by
  have hW' := hW
  obtain ⟨p, q, hA0, hV, rfl, hfz, hnd⟩ := hW
  have hA : DataW.TrodAll enc Tryz.prog W 0 (fun _ => true) true fF.params.toList args.toList ds p := hA0
  have hps : fF.params = #[68, 53] := by kernel_rfl
  rw [hps] at hA hval
  obtain ⟨v0, vs0, d0, ds0, p0, q0, hargs, rfl, rfl, h0, r0⟩ := trodAll_cons hA
  obtain ⟨v1, vs1, d1, ds1, p1, q1, rfl, rfl, rfl, h1, r1⟩ := trodAll_cons r0
  obtain ⟨rfl, rfl, rfl⟩ := trodAll_nil r1
  obtain rfl : args = #[v0, v1] := by cases args; simp_all
  obtain ⟨t0, u0, w0, rfl, hr0⟩ := open_run (hval 0 _ v0 rfl rfl) h0
  obtain ⟨b1, a1, rfl⟩ := open_chord (hval 1 _ v1 rfl rfl) h1
  have hpow := powers_at (W := W) (by kernel_rfl) hL
  refine (run W t0 u0 w0 hr0 b1 a1 hpow).mono fun e W' ⟨he, hB⟩ => ?_
  subst he
  exact ⟨_, rfl, law_post rfl hW' rfl (by kernel_rfl) (fun t ht => by
    rw [hps] at ht
    simp only [List.mem_cons, List.not_mem_nil, or_false] at ht
    rcases ht with rfl | rfl <;> exact ⟨by kernel_rfl, of_decide_eq_true (by kernel_rfl)⟩) hB⟩

abbrev wargs : Array Value := #[.agg #[.string ⟨#[]⟩, .int .i64 0, .slice none 0 0, .slice none 0 0], .agg #[.int .i64 0, .int .i64 0]]
theorem laid_met (os : Os) : laidMet Tryz.prog Rows.chordRunsRow.laid ((laidW os).forCall (fun _ _ => 0) ⟨#[], wargs, []⟩).memory :=
  laidMet_of_run' 8 (by kernel_rfl) (by kernel_rfl)
theorem reads (os : Os) {H : Type} (enc : TypeId × Value → H) : ∃ places, DataW.whole enc Tryz.prog ((laidW os).forCall (fun _ _ => 0) ⟨#[], wargs, []⟩).memory fF.params.toList Rows.chordRunsSpec.vars false wargs.toList 8 = some ([.agg [.lit (.string []), .lit (.int .i64 0), .nil, .nil], .agg [.lit (.int .i64 0), .lit (.int .i64 0)]], [], places) :=
  ⟨[], by kernel_rfl⟩

set_option maxRecDepth 100000 in
theorem lifted (os : Os) (started : os.Started) (H : Type) (enc : TypeId × Value → H) (F : Stop.Interp) :
    ReturnsInHanded {} Tryz.checked os fN .any ((OpenSpec.ofChange Rows.chordRunsSpec).preRow enc Tryz.prog fF Rows.chordRunsRow.domain false Rows.chordRunsRow.laid) (((OpenSpec.ofChange Rows.chordRunsSpec).at F).post enc Tryz.prog fF false true false false) := by
  obtain ⟨places, hx⟩ := reads os enc
  refine returnsInHanded_of_row (C := Tryz.checked) (s := OpenSpec.ofChange Rows.chordRunsSpec) ownGodebug started (by kernel_rfl) Tryz.func5
    (witness_row_at (enc := enc) (C := Tryz.checked) false (laidW os) wargs rfl (by kernel_rfl) (by kernel_rfl) (by kernel_rfl)
      (OpenSpec.preRow_of_cond 8 hx (by kernel_rfl) (fun k hk => by cases hk) (by kernel_rfl) (laid_met os))) ?_
  intro W base args ds gs before hval hW _ _ _ hL _ _
  exact contract H enc W base args ds gs before hval hW hL

theorem said : Rows.ChordRunsSaid :=
  OpenClaim.holds_of_cond fN fF rfl rfl rfl rfl rfl rfl rfl ⟨rfl, rfl, rfl, rfl, rfl⟩ rfl rfl rfl rfl rfl (by kernel_rfl) Tryz.func5 (by kernel_rfl)
    (of_decide_eq_true (by kernel_rfl)) (by unfold Func.isWrapper; first | (rw [if_pos (by decide +kernel)]; kernel_rfl) | (rw [if_neg (by decide +kernel)]; exact ⟨rfl, rfl⟩))
    (fun os started H enc _ F => by rw [OpenClaim.pre_eq_preRow]; exact lifted os started H enc F)

theorem plain (f : FuncId) (fn : Func) (hf : Tryz.pinned.checked.prog.funcNamed fF.name = some f) (hfn : Tryz.pinned.checked.prog.funcs[f]? = some fn) :
    false = Tryz.pinned.checked.prog.looks [] ∧ ∀ (j : Nat) t, fn.params[j]? = some t → Tryz.pinned.checked.prog.wantsStandIn t = false := by
  obtain rfl : f = fN := Option.some.inj ((show Tryz.prog.funcNamed fF.name = some fN by kernel_rfl).symm.trans hf) |>.symm
  obtain rfl : fn = fF := (Option.some.inj (Tryz.func5.symm.trans hfn)).symm
  refine ⟨by kernel_rfl, fun j t ht => ?_⟩
  have hps : fF.params = #[68, 53] := by kernel_rfl
  rw [hps] at ht
  have hm : t ∈ [68, 53] := by have := Array.mem_of_getElem? ht; simpa using this
  simp only [List.mem_cons, List.not_mem_nil, or_false] at hm
  rcases hm with rfl | rfl
  · exact (show Tryz.prog.wantsStandIn 68 = false by kernel_rfl)
  · exact (show Tryz.prog.wantsStandIn 53 = false by kernel_rfl)

end cRuns

/-- ChordRuns: its card. -/
theorem chordRuns_card : Rows.ChordRunsCardSaid :=
  Claim7.holds_tied_plain_at .later [] _ _ _ _ cRuns.said (fun _ h => by cases h) (by kernel_rfl) (fun _ h => by cases h) chordRuns_row_tie rfl ⟨rfl, rfl⟩ (by kernel_rfl) rfl cRuns.plain (by kernel_rfl)

end Go.Proofs.YtbpffadffbgloaaGreatDoor
