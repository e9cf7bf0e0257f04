/- A contract that is given whole, checked by a run. No program in sight. -/
import Derived.Test.YtoopgdchiljmiaaGreatDoorSymP
set_option linter.unusedVariables false
set_option linter.unusedSimpArgs false
namespace Go.Sym
open Go.RowKit

def glBelow (m : Nat) : List (Nat × Nat) → Bool
  | [] => true
  | (_, i) :: l => match Nat.blt i m with | true => glBelow m l | false => false
theorem glBelow_lt {m : Nat} : ∀ {l : List (Nat × Nat)}, glBelow m l = true → ∀ g i, (g, i) ∈ l → i < m
  | [], _, g, i, hm => by cases hm
  | (g', i') :: l, h, g, i, hm => by
    simp only [glBelow] at h
    split at h
    · rename_i hb
      rcases List.mem_cons.1 hm with e | hm
      · cases e; exact Nat.le_of_ble_eq_true hb
      · exact glBelow_lt h g i hm
    · cases h
/-- The contract that is given, its chunks behind by the run's own numbers, checked by a run. -/
def chkI (S : RStat) (n : Nat) (I : Inst) : Bool := match S.P.funcs[I.f]? with
  | some fn => match fn.body, callable fn with
    | some c, true => match I.hin.length with
      | m => match allKeys m I.hin && Nat.ble I.args.length fn.ntmps && glBelow m I.gl with
        | true => match exec S n m true ⟨fn.ntmps, S.tys, I.gl⟩ c ⟨enumT nums I.args, I.hin, m⟩ with
          | some (e, s') => match isEnd e, endS ⟨fn.ntmps, S.tys, I.gl⟩ m (idRen (I.hout.map (·.1))) fn.results.toList I.hout I.ret s' with
            | true, some cs => allB cs
            | _, _ => false
          | none => false
        | false => false
    | _, _ => false
  | none => false
theorem chkI_ok {S : RStat} (hS : S.ok) {n : Nat} {I : Inst} (h : chkI S n I = true) : I.ok S.P := by
  unfold chkI at h
  split at h
  case h_2 => cases h
  rename_i fn hf
  split at h
  case h_2 => cases h
  rename_i c hb hcall
  dsimp only at h
  split at h
  case h_2 => cases h
  rename_i hm
  simp only [Bool.and_eq_true] at hm
  split at h
  case h_2 => cases h
  rename_i e s' hex
  split at h
  case h_2 => cases h
  rename_i cs hend hE
  refine spec_parts hS I.hin.length hf hcall hb hm.1.1 (Nat.le_of_ble_eq_true hm.1.2) (glBelow_lt hm.2) fun F hP hC hrd => ?_
  refine lwp_mono (exec_sound hS n F _ true _ _ _ _ _ hP rfl hC (fun _ => hrd) hex) ?_
  rintro e' t ⟨rfl, rfl⟩
  exact end_intro (isEnd_eq hend) _ hE (allB_all h)

end Go.Sym
