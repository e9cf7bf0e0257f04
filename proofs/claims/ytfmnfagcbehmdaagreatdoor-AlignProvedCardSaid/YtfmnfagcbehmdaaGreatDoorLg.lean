/- AlignProved holds for every input: the call returns true, and each argument reads behind it as it read before. -/
import Derived.Test.YtfmnfagcbehmdaaGreatDoorDq
import Derived.Test.YtfmnfagcbehmdaaGreatDoorLf
import Derived.Test.YtfmnfagcbehmdaaGreatDoorLe
set_option linter.unusedVariables false
set_option linter.unusedSimpArgs false
namespace Go.Proofs.YtfmnfagcbehmdaaGreatDoor
open Go.RowKit Go.Sym
open Go.ChangeShapes Go.WideShapes Go.ChangeAt
namespace cProved

abbrev fN : FuncId := 5
noncomputable abbrev fF : Func := Tryz.f5
set_option maxRecDepth 20000 in
theorem run (W : World) (m0 s0 : List Th) (u0 w0 : Value) (hm0 : Rd W W.heap.size 2 u0 m0.length (things m0)) (hs0 : Rd W W.heap.size 2 w0 s0.length (things s0)) (c1 : Cs) (l2 : List (Int × Int)) (n2 : Nat) (R2 : Nat → List Int) (u2 w2 fk2 : Value) (hl2 : Rd W W.heap.size 2 u2 l2.length (prs l2)) (ht2 : TabRd W w2 fk2 n2 R2) (hp : ∃ t fr, W.heap[2]? = some (.cells (powZ.map fun z => Value.int .u64 z).toArray t fr)) (hf : ∃ t fr, W.heap[0]? = some (.cells formsV.toArray t fr)) :
    Calls Tryz.prog fN #[.agg #[u0, w0], .agg #[.int .i64 c1.missed, .int .i64 c1.unseen, .int .i64 c1.stretch], .agg #[u2, w2]] W fun e w' => e = .returned (.bool true) ∧ Below W.heap.size W w' := by
  obtain ⟨ap2, dp2⟩ := ro_of_rd (ρ := lawEnv [u0, w0, u2, fk2, w2]) (k := 2) hm0 rfl (thC_cells _)
  obtain ⟨ap3, dp3⟩ := ro_of_rd (ρ := lawEnv [u0, w0, u2, fk2, w2]) (k := 3) hs0 rfl (thC_cells _)
  obtain ⟨ap4, dp4⟩ := ro_of_rd (ρ := lawEnv [u0, w0, u2, fk2, w2]) (k := 4) hl2 rfl (prC_cells _)
  obtain ⟨ap6, ap5, dp6⟩ := ht2.2 (lawEnv [u0, w0, u2, fk2, w2]) 6 5 rfl rfl
  have hd : AV.denL (lawEnv [u0, w0, u2, fk2, w2]) [.agg [.sl 2 m0.length, .sl 3 s0.length], csA c1, .agg [.sl 4 l2.length, .sl 6 n2]] = some [.agg #[u0, w0], .agg #[.int .i64 c1.missed, .int .i64 c1.unseen, .int .i64 c1.stretch], .agg #[u2, w2]] := by
    simp only [AV.den] at dp2 dp3 dp4 dp6
    simp only [csA, AV.denL, AV.den, dp2, dp3, dp4, dp6, listO, Option.map_some]
  refine ((LawP_s m0 s0 c1 l2 n2 R2 (rd_len hm0) (rd_len hs0) (rd_len hl2) (ht2.1)).2 (lawEnv [u0, w0, u2, fk2, w2]) W _ (fun i L e => ?_) (fun g i h => ?_) ⟨fun i c e => ?_, fun i c e ho => ?_⟩ hd).mono fun e w' h => law_done (lawIn_no _ rfl) h
  · match i, e with
    | 0, _ => rfl
    | 1, _ => rfl
    | 2, _ => rfl
    | 3, _ => rfl
    | 4, _ => rfl
    | 5, _ => rfl
    | 6, _ => rfl
    | k + 7, e => cases e
  · have h : (g, i) ∈ lawG := h
    simp only [List.mem_cons, List.not_mem_nil, or_false, Prod.mk.injEq] at h
    rcases h with ⟨rfl, rfl⟩ | ⟨rfl, rfl⟩ <;> exact ⟨0, rfl⟩
  · match i, e with
    | 0, e => cases e; exact pw_holds hp
    | 1, e => cases e; exact fm_holds hf
    | 2, e => cases e; exact ap2
    | 3, e => cases e; exact ap3
    | 4, e => cases e; exact ap4
    | 5, e => cases e; exact ap5
    | 6, e => cases e; exact ap6
    | k + 7, e => cases e
  · have := lawIn_no _ rfl i c e
    rw [this] at ho
    cases ho

set_option maxRecDepth 100000 in
theorem contract (H : Type) (enc : TypeId × Value → H) (W : World) (base : Nat) (args : Array Value) (ds gs : List (DataW H)) (before : List MemPlace)
    (hval : ∀ (j : Nat) t v, fF.params[j]? = some t → args[j]? = some v → Value.okWide Tryz.prog W .any base t v)
    (hW : DataW.Whole enc Tryz.prog fF.params.toList Rows.alignProvedSpec.vars false W args.toList ds gs before) (hL : laidMetH Tryz.prog Rows.alignProvedRow.laid W) :
    Calls Tryz.prog fN args W fun e W' => ∃ v, e = .returned v ∧ Rows.alignProvedSpec.post enc Tryz.prog fF false true false false W args v W' := by
  have hW' := hW
  obtain ⟨p, q, hA0, hV, rfl, hfz, hnd⟩ := hW
  have hA : DataW.TrodAll enc Tryz.prog W 0 (fun _ => true) true fF.params.toList args.toList ds p := hA0
  have hps : fF.params = #[25, 27, 67] := by kernel_rfl
  rw [hps] at hA hval
  obtain ⟨v0, vs0, d0, ds0, p0, q0, hargs, rfl, rfl, h0, r0⟩ := trodAll_cons hA
  obtain ⟨v1, vs1, d1, ds1, p1, q1, rfl, rfl, rfl, h1, r1⟩ := trodAll_cons r0
  obtain ⟨v2, vs2, d2, ds2, p2, q2, rfl, rfl, rfl, h2, r2⟩ := trodAll_cons r1
  obtain ⟨rfl, rfl, rfl⟩ := trodAll_nil r2
  obtain rfl : args = #[v0, v1, v2] := by cases args; simp_all
  obtain ⟨m0, s0, u0, w0, rfl, hm0, hs0⟩ := open_ride (hval 0 _ v0 rfl rfl) h0
  obtain ⟨c1, rfl⟩ := open_costs (hval 1 _ v1 rfl rfl) h1
  obtain ⟨l2, n2, R2, u2, w2, fk2, rfl, hl2, ht2⟩ := open_offer (hval 2 _ v2 rfl rfl) h2
  have hpow := pow10_at (W := W) hL
  have hfor := forms_at (W := W) hL
  refine (run W m0 s0 u0 w0 hm0 hs0 c1 l2 n2 R2 u2 w2 fk2 hl2 ht2 hpow hfor).mono fun e W' ⟨he, hB⟩ => ?_
  subst he
  exact ⟨_, rfl, law_post rfl hW' rfl (by kernel_rfl) (fun t ht => by
    rw [hps] at ht
    simp only [List.mem_cons, List.not_mem_nil, or_false] at ht
    rcases ht with rfl | rfl | rfl <;> exact ⟨by kernel_rfl, of_decide_eq_true (by kernel_rfl)⟩) hB⟩

abbrev wargs : Array Value := #[.agg #[.slice none 0 0, .slice none 0 0], .agg #[.int .i64 0, .int .i64 0, .int .i64 0], .agg #[.slice none 0 0, .slice none 0 0]]
theorem laid_met (os : Os) : laidMetH Tryz.prog Rows.alignProvedRow.laid ((laidW os).forCall (fun _ _ => 0) ⟨#[], wargs, []⟩).memory :=
  laidMetH_of_parts3 (fuel := 8) (laidMet_of_run' 8 (by kernel_rfl) (by kernel_rfl)) (by kernel_rfl) (by kernel_rfl)
theorem reads (os : Os) {H : Type} (enc : TypeId × Value → H) : ∃ places, DataW.whole enc Tryz.prog ((laidW os).forCall (fun _ _ => 0) ⟨#[], wargs, []⟩).memory fF.params.toList Rows.alignProvedSpec.vars false wargs.toList 8 = some ([.agg [.nil, .nil], .agg [.lit (.int .i64 0), .lit (.int .i64 0), .lit (.int .i64 0)], .agg [.nil, .nil]], [], places) :=
  ⟨[], by kernel_rfl⟩

set_option maxRecDepth 100000 in
theorem lifted (os : Os) (started : os.Started) (H : Type) (enc : TypeId × Value → H) (F : Stop.Interp) :
    ReturnsInHanded {} Tryz.checked os fN .any ((OpenSpec.ofChange Rows.alignProvedSpec).preRow enc Tryz.prog fF Rows.alignProvedRow.domain false Rows.alignProvedRow.laid) (((OpenSpec.ofChange Rows.alignProvedSpec).at F).post enc Tryz.prog fF false true false false) := by
  obtain ⟨places, hx⟩ := reads os enc
  refine returnsInHanded_of_row (C := Tryz.checked) (s := OpenSpec.ofChange Rows.alignProvedSpec) ownGodebug started (by kernel_rfl) Tryz.func5
    (witness_row_at (enc := enc) (C := Tryz.checked) false (laidW os) wargs rfl (by kernel_rfl) (by kernel_rfl) (by kernel_rfl)
      (OpenSpec.preRow_of_cond 8 hx (by kernel_rfl) (fun k hk => by cases hk) (by kernel_rfl) (laid_met os))) ?_
  intro W base args ds gs before hval hW _ _ _ hL _ _
  exact contract H enc W base args ds gs before hval hW hL

theorem jPlace : (Rows.alignProvedRow.inPlace == Tryz.prog.inPlace fN) = true := by kernel_rfl
theorem jUnfollowed : (Rows.alignProvedRow.unfollowed == Tryz.prog.unfollowed fN) = true := by kernel_rfl
theorem jRecurses : (Rows.alignProvedRow.recurses == Tryz.prog.recurses fN) = true := by kernel_rfl
theorem jNamed : (Rows.alignProvedRow.named == Tryz.prog.varsNamed fN) = true := by kernel_rfl
theorem closed : joinedFacts Tryz.prog fN fF Rows.alignProvedSpec Rows.alignProvedRow = true := by
  unfold joinedFacts
  repeat' (with_reducible refine and_tt ?_ ?_)
  · kernel_rfl
  · exact laidOutP
  · exact mapsRowedP
  · kernel_rfl
  · kernel_rfl
  · kernel_rfl
  · kernel_rfl
  · kernel_rfl
  · kernel_rfl
  · exact jPlace
  · exact jUnfollowed
  · exact jRecurses
  · exact jNamed
  · kernel_rfl
  · kernel_rfl
  · kernel_rfl
  · kernel_rfl
  · kernel_rfl
  · kernel_rfl
  · kernel_rfl
  · kernel_rfl
  · kernel_rfl
  · exact keysP
  · kernel_rfl
  · exact heardP
  · exact mayP
  · exact liftsP
  · exact makeP
  · kernel_rfl
  · kernel_rfl
  · kernel_rfl
  · kernel_rfl
theorem jWf : Rows.alignProvedRow.wfByText (OpenSpec.ofChange Rows.alignProvedSpec) = true := by kernel_rfl
theorem jGoes : false = Rows.alignProvedRow.goesBy Tryz.prog := by kernel_rfl
set_option maxRecDepth 100000 in
theorem said : Rows.AlignProvedSaid :=
  OpenClaim.holds_of_cond fN fF rfl rfl rfl rfl rfl rfl rfl ⟨rfl, rfl, rfl, rfl, rfl⟩ rfl rfl rfl rfl rfl (by kernel_rfl) Tryz.func5 closed
    (of_decide_eq_true (by kernel_rfl)) (by unfold Func.isWrapper; first | (rw [if_pos (by decide +kernel)]; kernel_rfl) | (rw [if_neg (by decide +kernel)]; exact ⟨rfl, rfl⟩))
    (fun os started H enc _ F => by rw [OpenClaim.pre_eq_preRow]; exact lifted os started H enc F)

theorem plain (f : FuncId) (fn : Func) (hf : Tryz.pinned.checked.prog.funcNamed fF.name = some f) (hfn : Tryz.pinned.checked.prog.funcs[f]? = some fn) :
    false = Tryz.pinned.checked.prog.looks [] ∧ ∀ (j : Nat) t, fn.params[j]? = some t → Tryz.pinned.checked.prog.wantsStandIn t = false := by
  obtain rfl : f = fN := Option.some.inj ((show Tryz.prog.funcNamed fF.name = some fN by kernel_rfl).symm.trans hf) |>.symm
  obtain rfl : fn = fF := (Option.some.inj (Tryz.func5.symm.trans hfn)).symm
  refine ⟨by kernel_rfl, fun j t ht => ?_⟩
  have hps : fF.params = #[25, 27, 67] := by kernel_rfl
  rw [hps] at ht
  have hm : t ∈ [25, 27, 67] := by have := Array.mem_of_getElem? ht; simpa using this
  simp only [List.mem_cons, List.not_mem_nil, or_false] at hm
  rcases hm with rfl | rfl | rfl
  · exact (show Tryz.prog.wantsStandIn 25 = false by kernel_rfl)
  · exact (show Tryz.prog.wantsStandIn 27 = false by kernel_rfl)
  · exact (show Tryz.prog.wantsStandIn 67 = false by kernel_rfl)

end cProved

set_option maxRecDepth 100000 in
/-- AlignProved: its card. -/
theorem alignProved_card : Rows.AlignProvedCardSaid :=
  Claim7.holds_tied_plain_at .later [] _ _ _ _ cProved.said (fun _ h => by cases h) cProved.jWf (fun _ h => by cases h) alignProved_row_tie rfl ⟨rfl, rfl⟩ (by kernel_rfl) rfl cProved.plain cProved.jGoes

end Go.Proofs.YtfmnfagcbehmdaaGreatDoor
