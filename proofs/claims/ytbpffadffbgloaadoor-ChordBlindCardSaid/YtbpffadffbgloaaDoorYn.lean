/- ChordBlind holds for every input: the call returns true, and each argument reads behind it as it read before. -/
import Derived.Test.YtbpffadffbgloaaDoorCg
import Derived.Test.YtbpffadffbgloaaDoorYm
set_option linter.unusedVariables false
set_option linter.unusedSimpArgs false
namespace Go.Proofs.YtbpffadffbgloaaDoor
open Go.RowKit Go.Sym
open Go.ChangeShapes Go.WideShapes Go.ChangeAt
namespace cBlind

abbrev fN : FuncId := 8
noncomputable abbrev fF : Func := Tryd.f8
theorem run (W : World) (b0 a0 : Int) (b1 a1 : Int) (l2 : List Int) (u2 : Value) (hr2 : Rd W W.heap.size 1 u2 l2.length (Go.Proofs.YtbpffadffbgloaaDoor.ints l2)) (hp : ∃ t fr, W.heap[0]? = some (.cells ([1, 0, 0, 1, -1, 0, 0, -1].map fun z => Value.int .i64 z).toArray t fr)) :
    Calls Tryd.prog fN #[.agg #[.int .i64 b0, .int .i64 a0], .agg #[.int .i64 b1, .int .i64 a1], u2] W fun e w' => e = .returned (.bool true) ∧ Below W.heap.size W w' := by

  obtain ⟨ap1, dp1⟩ := ro_of_rd (ρ := lawEnv [u2]) (k := 1) hr2 rfl (intsC_cells _)
  have hd : AV.denL (lawEnv [u2]) [.agg [i64 b0, i64 a0], .agg [i64 b1, i64 a1], .sl 1 l2.length] = some [.agg #[.int .i64 b0, .int .i64 a0], .agg #[.int .i64 b1, .int .i64 a1], u2] := by
    simp only [AV.den] at dp1
    simp only [trA, AV.denL, AV.den, dp1, listO, Option.map_some]
  refine ((LBlind_s b0 a0 b1 a1 l2).2 (lawEnv [u2]) W _ (fun i L e => ?_) (fun g i h => ?_) ⟨fun i c e => ?_, fun i c e ho => ?_⟩ hd).mono fun e w' h => law_done (lawIn_no _ rfl) h
  · match i, e with
    | 0, _ => rfl
    | 1, _ => rfl
    | k + 2, e => cases e
  · have h : (g, i) ∈ powG := h
    simp only [List.mem_cons, List.not_mem_nil, or_false, Prod.mk.injEq] at h
    obtain ⟨rfl, rfl⟩ := h
    exact ⟨0, rfl⟩
  · match i, e with
    | 0, e => cases e; exact pow_holds hp
    | 1, e => cases e; exact ap1
    | k + 2, e => cases e
  · have := lawIn_no _ rfl i c e
    rw [this] at ho
    cases ho

set_option maxRecDepth 100000 in
theorem contract (H : Type) (enc : TypeId × Value → H) (W : World) (base : Nat) (args : Array Value) (ds gs : List (DataW H)) (before : List MemPlace)
    (hval : ∀ (j : Nat) t v, fF.params[j]? = some t → args[j]? = some v → Value.okWide Tryd.prog W .any base t v)
    (hW : DataW.Whole enc Tryd.prog fF.params.toList Rows.chordBlindSpec.vars false W args.toList ds gs before) (hL : laidMetH Tryd.prog Rows.chordBlindRow.laid W) :
    Calls Tryd.prog fN args W fun e W' => ∃ v, e = .returned v ∧ Rows.chordBlindSpec.post enc Tryd.prog fF false true false false W args v W' := by
  have hW' := hW
  obtain ⟨p, q, hA0, hV, rfl, hfz, hnd⟩ := hW
  have hA : DataW.TrodAll enc Tryd.prog W 0 (fun _ => true) true fF.params.toList args.toList ds p := hA0
  have hps : fF.params = #[23, 23, 24] := by kernel_rfl
  rw [hps] at hA hval
  obtain ⟨v0, vs0, d0, ds0, p0, q0, hargs, rfl, rfl, h0, r0⟩ := trodAll_cons hA
  obtain ⟨v1, vs1, d1, ds1, p1, q1, rfl, rfl, rfl, h1, r1⟩ := trodAll_cons r0
  obtain ⟨v2, vs2, d2, ds2, p2, q2, rfl, rfl, rfl, h2, r2⟩ := trodAll_cons r1
  obtain ⟨rfl, rfl, rfl⟩ := trodAll_nil r2
  obtain rfl : args = #[v0, v1, v2] := by cases args; simp_all
  obtain ⟨b0, a0, rfl⟩ := open_chord (hval 0 _ v0 rfl rfl) h0
  obtain ⟨b1, a1, rfl⟩ := open_chord (hval 1 _ v1 rfl rfl) h1
  obtain ⟨l2, hr2⟩ := open_intsA (hval 2 _ v2 rfl rfl) h2
  have hpow := powers_at (W := W) (by kernel_rfl) hL
  refine (run W b0 a0 b1 a1 l2 v2 hr2 hpow).mono fun e W' ⟨he, hB⟩ => ?_
  subst he
  exact ⟨_, rfl, law_post rfl hW' rfl (by kernel_rfl) (fun t ht => by
    rw [hps] at ht
    simp only [List.mem_cons, List.not_mem_nil, or_false] at ht
    rcases ht with rfl | rfl | rfl <;> exact ⟨by kernel_rfl, of_decide_eq_true (by kernel_rfl)⟩) hB⟩

abbrev wargs : Array Value := #[.agg #[.int .i64 0, .int .i64 0], .agg #[.int .i64 0, .int .i64 0], .slice none 0 0]
theorem laid_met (os : Os) : laidMet Tryd.prog Rows.chordBlindRow.laid ((laidW os).forCall (fun _ _ => 0) ⟨#[], wargs, []⟩).memory :=
  laidMet_of_run' 8 (by kernel_rfl) (by kernel_rfl)
theorem reads (os : Os) {H : Type} (enc : TypeId × Value → H) : ∃ places, DataW.whole enc Tryd.prog ((laidW os).forCall (fun _ _ => 0) ⟨#[], wargs, []⟩).memory fF.params.toList Rows.chordBlindSpec.vars false wargs.toList 8 = some ([.agg [.lit (.int .i64 0), .lit (.int .i64 0)], .agg [.lit (.int .i64 0), .lit (.int .i64 0)], .nil], [], places) :=
  ⟨[], by kernel_rfl⟩

set_option maxRecDepth 100000 in
theorem lifted (os : Os) (started : os.Started) (H : Type) (enc : TypeId × Value → H) (F : Stop.Interp) :
    ReturnsInHanded {} Tryd.checked os fN .any ((OpenSpec.ofChange Rows.chordBlindSpec).preRow enc Tryd.prog fF Rows.chordBlindRow.domain false Rows.chordBlindRow.laid) (((OpenSpec.ofChange Rows.chordBlindSpec).at F).post enc Tryd.prog fF false true false false) := by
  obtain ⟨places, hx⟩ := reads os enc
  refine returnsInHanded_of_row (C := Tryd.checked) (s := OpenSpec.ofChange Rows.chordBlindSpec) ownGodebug started (by kernel_rfl) Tryd.func8
    (witness_row_at (enc := enc) (C := Tryd.checked) false (laidW os) wargs rfl (by kernel_rfl) (by kernel_rfl) (by kernel_rfl)
      (OpenSpec.preRow_of_cond 8 hx (by kernel_rfl) (fun k hk => by cases hk) (by kernel_rfl) (laid_met os))) ?_
  intro W base args ds gs before hval hW _ _ _ hL _ _
  exact contract H enc W base args ds gs before hval hW hL

theorem said : Rows.ChordBlindSaid :=
  OpenClaim.holds_of_cond fN fF rfl rfl rfl rfl rfl rfl rfl ⟨rfl, rfl, rfl, rfl, rfl⟩ rfl rfl rfl rfl rfl (by kernel_rfl) Tryd.func8 (by kernel_rfl)
    (of_decide_eq_true (by kernel_rfl)) (by unfold Func.isWrapper; first | (rw [if_pos (by decide +kernel)]; kernel_rfl) | (rw [if_neg (by decide +kernel)]; exact ⟨rfl, rfl⟩))
    (fun os started H enc _ F => by rw [OpenClaim.pre_eq_preRow]; exact lifted os started H enc F)

theorem plain (f : FuncId) (fn : Func) (hf : Tryd.pinned.checked.prog.funcNamed fF.name = some f) (hfn : Tryd.pinned.checked.prog.funcs[f]? = some fn) :
    false = Tryd.pinned.checked.prog.looks [] ∧ ∀ (j : Nat) t, fn.params[j]? = some t → Tryd.pinned.checked.prog.wantsStandIn t = false := by
  obtain rfl : f = fN := Option.some.inj ((show Tryd.prog.funcNamed fF.name = some fN by kernel_rfl).symm.trans hf) |>.symm
  obtain rfl : fn = fF := (Option.some.inj (Tryd.func8.symm.trans hfn)).symm
  refine ⟨by kernel_rfl, fun j t ht => ?_⟩
  have hps : fF.params = #[23, 23, 24] := by kernel_rfl
  rw [hps] at ht
  have hm : t ∈ [23, 23, 24] := by have := Array.mem_of_getElem? ht; simpa using this
  simp only [List.mem_cons, List.not_mem_nil, or_false] at hm
  rcases hm with rfl | rfl | rfl
  · exact (show Tryd.prog.wantsStandIn 23 = false by kernel_rfl)
  · exact (show Tryd.prog.wantsStandIn 23 = false by kernel_rfl)
  · exact (show Tryd.prog.wantsStandIn 24 = false by kernel_rfl)

end cBlind

/-- ChordBlind: its card. -/
theorem chordBlind_card : Rows.ChordBlindCardSaid :=
  Claim7.holds_tied_plain_at .later [] _ _ _ _ cBlind.said (fun _ h => by cases h) (by kernel_rfl) (fun _ h => by cases h) chordBlind_row_tie rfl ⟨rfl, rfl⟩ (by kernel_rfl) rfl cBlind.plain (by kernel_rfl)

end Go.Proofs.YtbpffadffbgloaaDoor
