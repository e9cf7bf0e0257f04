/- Symbolic runs: worlds, drawn regions, iterators, execution, values of this program. -/
import Derived.Test.YtlhgddgoblliaaaGreatDoorSB
import Derived.Test.YtlhgddgoblliaaaGreatDoorChecked
import Derived.ChangeKeysEq
import Derived.Laws.StructEq
set_option linter.unusedVariables false
set_option linter.unusedSimpArgs false
namespace Go.Sym
open Go.RowKit

/-- The elements of a list, each of sz cells. -/
def genL {α : Type} (f : α → List Value) (d : α) (sz : Nat) (l : List α) : Cont := .gen l.length sz fun k => f (l.getD k d)
theorem gen_congr {n sz : Nat} {g g' : Nat → List Value} (h : ∀ k, k < n → g k = g' k) : (Cont.gen n sz g).cells = (Cont.gen n sz g').cells := by
  simp only [Cont.cells]
  refine List.map_congr_left fun q hq => ?_
  have hq := List.mem_range.1 hq
  rw [h (q / sz) (Nat.div_lt_of_lt_mul (by rw [Nat.mul_comm]; exact hq))]
theorem genL_cells {α : Type} {f : α → List Value} {d : α} {sz : Nat} (hf : ∀ x, (f x).length = sz) (l : List α) : (genL f d sz l).cells = (l.flatMap f).map AV.lit := by
  have hlen : ∀ l : List α, (l.flatMap f).length = l.length * sz := by
    intro l
    induction l with
    | nil => simp
    | cons a l ih => simp [List.flatMap_cons, ih, hf, Nat.add_mul, Nat.add_comm]
  rcases Nat.eq_zero_or_pos sz with rfl | hsz
  · have : l.flatMap f = [] := List.eq_nil_of_length_eq_zero (by rw [hlen]; simp)
    rw [this]; simp [genL, Cont.cells]
  have key : ∀ (l : List α) (q : Nat), q < l.length * sz → (l.flatMap f)[q]? = (f (l.getD (q / sz) d))[q % sz]? := by
    intro l
    induction l with
    | nil => intro q h; simp at h
    | cons a l ih =>
      intro q h
      rw [List.flatMap_cons]
      by_cases hq : q < sz
      · rw [List.getElem?_append_left (by rw [hf]; exact hq), Nat.div_eq_of_lt hq, Nat.mod_eq_of_lt hq]; simp
      · have e1 : q / sz = (q - sz) / sz + 1 := by rw [Nat.div_eq_sub_div hsz (by omega)]
        have e2 : q % sz = (q - sz) % sz := Nat.mod_eq_sub_mod (by omega)
        rw [List.getElem?_append_right (by rw [hf]; omega), hf, ih (q - sz) (by simp [Nat.add_mul] at h; omega), e1, e2]; simp
  simp only [genL, Cont.cells]
  refine List.ext_getElem? fun q => ?_
  by_cases hq : q < l.length * sz
  · simp only [List.getElem?_map, List.getElem?_range hq, Option.map_some, key l q hq]
    have h2 : q % sz < (f (l.getD (q / sz) d)).length := by rw [hf]; exact Nat.mod_lt _ hsz
    generalize f (l.getD (q / sz) d) = m at h2 ⊢
    simp [List.getD, h2]
  · rw [List.getElem?_eq_none (by simp; omega), List.getElem?_eq_none (by simp [hlen]; omega)]
theorem genL_nil {α : Type} (f : α → List Value) (d : α) (sz : Nat) : (genL f d sz []).cells = [] := by simp [genL, Cont.cells]
theorem genL_snoc {α : Type} {f : α → List Value} {d : α} {sz : Nat} (hf : ∀ x, (f x).length = sz) (l : List α) (x : α) : (genL f d sz (l ++ [x])).cells = (genL f d sz l).cells ++ (f x).map AV.lit := by
  rw [genL_cells hf, genL_cells hf]; simp
theorem genL_append {α : Type} {f : α → List Value} {d : α} {sz : Nat} (hf : ∀ x, (f x).length = sz) (l m : List α) : (genL f d sz (l ++ m)).cells = (genL f d sz l).cells ++ (genL f d sz m).cells := by
  rw [genL_cells hf, genL_cells hf, genL_cells hf]; simp
theorem genL_set {α : Type} {f : α → List Value} {d : α} {sz : Nat} (l : List α) (e j : Nat) (vs : List Value) (x : α) (he : e < l.length) (h : lay (f (l.getD e d)) j vs = f x) :
    (genL f d sz (l.set e x)).cells = (Cont.gen l.length sz fun q => if q = e then lay (f (l.getD e d)) j vs else f (l.getD q d)).cells := by
  unfold genL
  rw [List.length_set]
  refine gen_congr fun k hk => ?_
  by_cases hke : k = e
  · subst hke; rw [if_pos rfl, h]; simp [hk]
  · rw [if_neg hke]; simp [List.getElem?_set, Ne.symm hke]

end Go.Sym

namespace Go.Proofs.YtlhgddgoblliaaaGreatDoor
open Go.RowKit Go.Sym

def tys : List (Nat × TyI) := [
  (3, ⟨.int .i64, 1, 8, .int .i64 0⟩),
  (23, ⟨.slice 3, 1, 24, .slice none 0 0⟩),
  (9, ⟨.string, 1, 16, .string ⟨#[]⟩⟩),
  (64, ⟨.struct #[⟨ "Sections", 61, 0, false, "", "", 0⟩, ⟨ "Shifts", 62, 1, false, "", "", 24⟩], 2, 48, .agg #[.slice none 0 0, .slice none 0 0]⟩),
  (47, ⟨.slice 9, 1, 24, .slice none 0 0⟩),
  (57, ⟨.struct #[⟨ "Sections", 54, 0, false, "", "", 0⟩, ⟨ "Shifts", 55, 1, false, "", "", 24⟩], 2, 48, .agg #[.slice none 0 0, .slice none 0 0]⟩),
  (30, ⟨.int .i64, 1, 8, .int .i64 0⟩),
  (89, ⟨.struct #[⟨ "Num", 3, 0, false, "", "", 0⟩, ⟨ "Den", 3, 1, false, "", "", 8⟩], 2, 16, .agg #[.int .i64 0, .int .i64 0]⟩),
  (131, ⟨.struct #[⟨ "Name", 9, 0, false, "", "", 0⟩, ⟨ "Kind", 9, 1, false, "", "", 16⟩, ⟨ "After", 47, 2, false, "", "", 32⟩], 3, 56, .agg #[.string ⟨#[]⟩, .string ⟨#[]⟩, .slice none 0 0]⟩),
  (33, ⟨.slice 131, 1, 24, .slice none 0 0⟩),
  (62, ⟨.slice 159, 1, 24, .slice none 0 0⟩),
  (25, ⟨.struct #[⟨ "Low", 3, 0, false, "", "", 0⟩, ⟨ "High", 3, 1, false, "", "", 8⟩], 2, 16, .agg #[.int .i64 0, .int .i64 0]⟩),
  (92, ⟨.struct #[⟨ "Name", 9, 0, false, "", "", 0⟩, ⟨ "Deadline", 3, 1, false, "", "", 16⟩, ⟨ "Work", 3, 2, false, "", "", 24⟩, ⟨ "Ballast", 3, 3, false, "", "", 32⟩, ⟨ "Value", 3, 4, false, "", "", 40⟩], 5, 48, .agg #[.string ⟨#[]⟩, .int .i64 0, .int .i64 0, .int .i64 0, .int .i64 0]⟩),
  (77, ⟨.struct #[⟨ "Value", 3, 0, false, "", "", 0⟩, ⟨ "Cost", 3, 1, false, "", "", 8⟩], 2, 16, .agg #[.int .i64 0, .int .i64 0]⟩),
  (159, ⟨.struct #[⟨ "Day", 3, 0, false, "", "", 0⟩, ⟨ "Hours", 3, 1, false, "", "", 8⟩, ⟨ "Ballast", 3, 2, false, "", "", 16⟩, ⟨ "Rate", 3, 3, false, "", "", 24⟩], 4, 32, .agg #[.int .i64 0, .int .i64 0, .int .i64 0, .int .i64 0]⟩),
  (61, ⟨.slice 92, 1, 24, .slice none 0 0⟩),
  (54, ⟨.slice 151, 1, 24, .slice none 0 0⟩),
  (55, ⟨.slice 161, 1, 24, .slice none 0 0⟩),
  (190, ⟨.slice 30, 1, 24, .slice none 0 0⟩),
  (22, ⟨.slice 51, 1, 24, .slice none 0 0⟩),
  (110, ⟨.struct #[⟨ "Length", 3, 0, false, "", "", 0⟩, ⟨ "Heat", 3, 1, false, "", "", 8⟩, ⟨ "Extension", 3, 2, false, "", "", 16⟩], 3, 24, .agg #[.int .i64 0, .int .i64 0, .int .i64 0]⟩),
  (51, ⟨.struct #[⟨ "Name", 9, 0, false, "", "", 0⟩, ⟨ "Kind", 9, 1, false, "", "", 16⟩, ⟨ "After", 47, 2, false, "", "", 32⟩], 3, 56, .agg #[.string ⟨#[]⟩, .string ⟨#[]⟩, .slice none 0 0]⟩),
  (151, ⟨.struct #[⟨ "Name", 9, 0, false, "", "", 0⟩, ⟨ "Deadline", 3, 1, false, "", "", 16⟩, ⟨ "Work", 3, 2, false, "", "", 24⟩, ⟨ "Ballast", 3, 3, false, "", "", 32⟩, ⟨ "Value", 3, 4, false, "", "", 40⟩], 5, 48, .agg #[.string ⟨#[]⟩, .int .i64 0, .int .i64 0, .int .i64 0, .int .i64 0]⟩),
  (161, ⟨.struct #[⟨ "Day", 3, 0, false, "", "", 0⟩, ⟨ "Hours", 3, 1, false, "", "", 8⟩, ⟨ "Ballast", 3, 2, false, "", "", 16⟩, ⟨ "Rate", 3, 3, false, "", "", 24⟩], 4, 32, .agg #[.int .i64 0, .int .i64 0, .int .i64 0, .int .i64 0]⟩),
  (97, ⟨.array 2 3, 2, 16, .agg #[.int .i64 0, .int .i64 0]⟩),
  (179, ⟨.array 4 3, 4, 32, .agg #[.int .i64 0, .int .i64 0, .int .i64 0, .int .i64 0]⟩),
  (129, ⟨.struct #[⟨ "jobs", 33, 0, false, "", "versine/plan", 0⟩, ⟨ "heats", 23, 1, false, "", "versine/plan", 24⟩, ⟨ "band", 25, 2, false, "", "versine/plan", 48⟩, ⟨ "at", 126, 4, false, "", "versine/plan", 64⟩, ⟨ "days", 23, 5, false, "", "versine/plan", 72⟩], 6, 96, .agg #[.slice none 0 0, .slice none 0 0, .int .i64 0, .int .i64 0, .map none, .slice none 0 0]⟩),
  (102, ⟨.struct #[⟨ "Most", 3, 0, false, "", "", 0⟩, ⟨ "Ramp", 3, 1, false, "", "", 8⟩], 2, 16, .agg #[.int .i64 0, .int .i64 0]⟩),
  (4, ⟨.bool, 1, 1, .bool false⟩),
  (27, ⟨.struct #[⟨ "Heats", 23, 0, false, "", "", 0⟩, ⟨ "Band", 25, 1, false, "", "", 24⟩, ⟨ "Days", 23, 3, false, "", "", 40⟩], 4, 64, .agg #[.slice none 0 0, .int .i64 0, .int .i64 0, .slice none 0 0]⟩),
  (170, ⟨.struct #[⟨ "words", 47, 0, false, "", "versine/plan", 0⟩, ⟨ "wrong", 4, 1, false, "", "versine/plan", 24⟩], 2, 32, .agg #[.slice none 0 0, .bool false]⟩),
  (137, ⟨.slice 4, 1, 24, .slice none 0 0⟩),
  (5, ⟨.int .u8, 1, 1, .int .u8 0⟩),
  (21, ⟨.int .i32, 1, 4, .int .i32 0⟩),
  (99, ⟨.struct #[⟨ "Section", 3, 0, false, "", "", 0⟩, ⟨ "Why", 9, 1, false, "", "", 8⟩], 2, 24, .agg #[.int .i64 0, .string ⟨#[]⟩]⟩),
  (199, ⟨.array 13 3, 13, 104, .agg #[.int .i64 0, .int .i64 0, .int .i64 0, .int .i64 0, .int .i64 0, .int .i64 0, .int .i64 0, .int .i64 0, .int .i64 0, .int .i64 0, .int .i64 0, .int .i64 0, .int .i64 0]⟩),
  (83, ⟨.slice 97, 1, 24, .slice none 0 0⟩),
  (125, ⟨.pointer 129, 1, 8, .pointer none⟩),
  (183, ⟨.struct #[⟨ "Told", 77, 0, true, "", "", 0⟩, ⟨ "plan", 23, 2, false, "", "versine/plan", 16⟩], 3, 40, .agg #[.int .i64 0, .int .i64 0, .slice none 0 0]⟩),
  (90, ⟨.slice 89, 1, 24, .slice none 0 0⟩),
  (126, ⟨.map 9 3, 1, 8, .map none⟩),
  (198, ⟨.slice 199, 1, 24, .slice none 0 0⟩),
  (116, ⟨.slice 110, 1, 24, .slice none 0 0⟩),
  (143, ⟨.map 9 4, 1, 8, .map none⟩),
  (234, ⟨.slice 233, 1, 24, .slice none 0 0⟩),
  (93, ⟨.slice 99, 1, 24, .slice none 0 0⟩),
  (173, ⟨.struct #[⟨ "read", 171, 0, false, "", "versine/plan", 0⟩], 1, 8, .agg #[.nilFunc]⟩),
  (212, ⟨.int .u64, 1, 8, .int .u64 0⟩),
  (175, ⟨.map 9 173, 1, 8, .map none⟩),
  (233, ⟨.pointer 3, 1, 8, .pointer none⟩),
  (145, ⟨.array 3 9, 3, 48, .agg #[.string ⟨#[]⟩, .string ⟨#[]⟩, .string ⟨#[]⟩]⟩),
  (171, ⟨.func #[177, 167] #[] false, 1, 8, .nilFunc⟩)]
theorem tys_ok : TValid Tryz.prog tys :=
  tvalid_cons (by kernel_rfl) (by kernel_rfl) <|
  tvalid_cons (by kernel_rfl) (by kernel_rfl) <|
  tvalid_cons (by kernel_rfl) (by kernel_rfl) <|
  tvalid_cons (by kernel_rfl) (by kernel_rfl) <|
  tvalid_cons (by kernel_rfl) (by kernel_rfl) <|
  tvalid_cons (by kernel_rfl) (by kernel_rfl) <|
  tvalid_cons (by kernel_rfl) (by kernel_rfl) <|
  tvalid_cons (by kernel_rfl) (by kernel_rfl) <|
  tvalid_cons (by kernel_rfl) (by kernel_rfl) <|
  tvalid_cons (by kernel_rfl) (by kernel_rfl) <|
  tvalid_cons (by kernel_rfl) (by kernel_rfl) <|
  tvalid_cons (by kernel_rfl) (by kernel_rfl) <|
  tvalid_cons (by kernel_rfl) (by kernel_rfl) <|
  tvalid_cons (by kernel_rfl) (by kernel_rfl) <|
  tvalid_cons (by kernel_rfl) (by kernel_rfl) <|
  tvalid_cons (by kernel_rfl) (by kernel_rfl) <|
  tvalid_cons (by kernel_rfl) (by kernel_rfl) <|
  tvalid_cons (by kernel_rfl) (by kernel_rfl) <|
  tvalid_cons (by kernel_rfl) (by kernel_rfl) <|
  tvalid_cons (by kernel_rfl) (by kernel_rfl) <|
  tvalid_cons (by kernel_rfl) (by kernel_rfl) <|
  tvalid_cons (by kernel_rfl) (by kernel_rfl) <|
  tvalid_cons (by kernel_rfl) (by kernel_rfl) <|
  tvalid_cons (by kernel_rfl) (by kernel_rfl) <|
  tvalid_cons (by kernel_rfl) (by kernel_rfl) <|
  tvalid_cons (by kernel_rfl) (by kernel_rfl) <|
  tvalid_cons (by kernel_rfl) (by kernel_rfl) <|
  tvalid_cons (by kernel_rfl) (by kernel_rfl) <|
  tvalid_cons (by kernel_rfl) (by kernel_rfl) <|
  tvalid_cons (by kernel_rfl) (by kernel_rfl) <|
  tvalid_cons (by kernel_rfl) (by kernel_rfl) <|
  tvalid_cons (by kernel_rfl) (by kernel_rfl) <|
  tvalid_cons (by kernel_rfl) (by kernel_rfl) <|
  tvalid_cons (by kernel_rfl) (by kernel_rfl) <|
  tvalid_cons (by kernel_rfl) (by kernel_rfl) <|
  tvalid_cons (by kernel_rfl) (by kernel_rfl) <|
  tvalid_cons (by kernel_rfl) (by kernel_rfl) <|
  tvalid_cons (by kernel_rfl) (by kernel_rfl) <|
  tvalid_cons (by kernel_rfl) (by kernel_rfl) <|
  tvalid_cons (by kernel_rfl) (by kernel_rfl) <|
  tvalid_cons (by kernel_rfl) (by kernel_rfl) <|
  tvalid_cons (by kernel_rfl) (by kernel_rfl) <|
  tvalid_cons (by kernel_rfl) (by kernel_rfl) <|
  tvalid_cons (by kernel_rfl) (by kernel_rfl) <|
  tvalid_cons (by kernel_rfl) (by kernel_rfl) <|
  tvalid_cons (by kernel_rfl) (by kernel_rfl) <|
  tvalid_cons (by kernel_rfl) (by kernel_rfl) <|
  tvalid_cons (by kernel_rfl) (by kernel_rfl) <|
  tvalid_cons (by kernel_rfl) (by kernel_rfl) <|
  tvalid_cons (by kernel_rfl) (by kernel_rfl) <|
  tvalid_cons (by kernel_rfl) (by kernel_rfl) <|
  tvalid_cons (by kernel_rfl) (by kernel_rfl) <|
  tvalid_nil _
theorem mixed : Tryz.prog.follows .mixedOrders = true := by kernel_rfl

end Go.Proofs.YtlhgddgoblliaaaGreatDoor

namespace Go.Sym
open Go.RowKit

theorem put_frame {a : Act} {d : Option Tmp} {v : Value} : ∀ k, d ≠ some k → (a.put d v).tmps[k]? = a.tmps[k]? := by
  intro k hk
  cases d with
  | none => rfl
  | some d => exact put_other v (fun e => hk (by rw [e]))

/-- An operation writes its own slot alone. -/
theorem oper_frame {rd : Option Nat} {P : Program} {o : Oper} {a : Act} {w : World} {K : Act → World → Prop} {Q : Exit → Act → World → Prop} (hh : o.wpIn (fen rd) 2 P a w K Q) :
    o.wpIn (fen rd) 2 P a w (fun a' w' => K a' w' ∧ ∀ k, o.dst ≠ some k → a'.tmps[k]? = a.tmps[k]?) Q := by
  unfold Oper.wpIn at *
  refine ⟨hh.1, ?_⟩
  have hh := hh.2
  generalize (o.semAt (fen rd).round a.eval).run P w = r at *
  cases r with
  | ok n w' =>
    cases n <;> simp only [Oper.uponIn] at hh ⊢ <;>
      first
        | exact ⟨hh, put_frame⟩
        | exact ⟨hh, fun k hk => put_frame (a := { a with defers := _ }) k hk⟩
        | exact ⟨hh.1, CallsIn.mono hh.2 (fun e w'' he => by cases e <;> first | exact ⟨he, put_frame⟩ | exact he)⟩
        | exact ⟨hh.1, RowsIn.mono hh.2 (fun _ _ he => ⟨he, put_frame⟩)⟩
        | exact ⟨hh.1, RoundIn.mono hh.2 (fun e w'' he => by cases e <;> first | exact ⟨he, put_frame⟩ | exact he)⟩
        | exact hh
  | halt x w' => cases x <;> simp only [Oper.uponIn] at hh ⊢ <;> exact hh
theorem wpOp_frame {rd : Option Nat} {P : Program} {ops : Array Oper} {Q : Exit → Act → World → Prop} {i : Nat} {o : Oper} (ho : ops[i]? = some o) {a : Act} {w : World} {K : Act → World → Prop} (hh : wpOpIn (fen rd) 2 P ops Q i K a w) :
    wpOpIn (fen rd) 2 P ops Q i (fun a' w' => K a' w' ∧ ∀ k, o.dst ≠ some k → a'.tmps[k]? = a.tmps[k]?) a w := by
  unfold wpOpIn at *
  simp only [ho] at hh ⊢
  split
  · rename_i hw; simp only [hw, if_true] at hh; exact oper_frame hh
  · rename_i hw; simp only [hw] at hh; exact ⟨hh.1, hh.2, put_frame⟩

/-- What a float may read: the slots at hand, and those of the floats for which it waits. -/
def flT (cl : List Nat) (fl : Nat) (full : List Res) (i : Nat) (T : List (Nat × AV)) : List (Nat × AV) := match nth cl i with
  | some c => tE (bitAt (Nat.land fl c)) full ++ T
  | none => T
def noE : Env := fun _ => none
theorem noE_le (ρ : Env) : Env.le noE ρ := fun i L e => by cases e
theorem all_append {l m : List Cd} : All (l ++ m) ↔ All l ∧ All m := by
  induction l with
  | nil => exact ⟨fun h => ⟨trivial, h⟩, fun h => h.2⟩
  | cons a l ih => exact ⟨fun h => ⟨⟨h.1, (ih.1 h.2).1⟩, (ih.1 h.2).2⟩, fun h => ⟨h.1.1, ih.2 ⟨h.1.2, h.2⟩⟩⟩

/-- Two values that are written alike. -/
def avB : AV → AV → Bool
  | .ptr i e sz j, .ptr i' e' sz' j' => Nat.beq i i' && Nat.beq e e' && Nat.beq sz sz' && Nat.beq j j'
  | .sl i n, .sl i' n' => Nat.beq i i' && Nat.beq n n'
  | .mp i, .mp i' => Nat.beq i i'
  | .yld i, .yld i' => Nat.beq i i'
  | .lit v, .lit u => valB v u
  | _, _ => false
theorem avB_eq {a b : AV} (h : avB a b = true) : a = b := by
  cases a <;> cases b <;> try (cases h; done)
  · rw [valB_eq h]
  · simp only [avB, Bool.and_eq_true] at h
    obtain ⟨⟨⟨h1, h2⟩, h3⟩, h4⟩ := h
    rw [Nat.eq_of_beq_eq_true h1, Nat.eq_of_beq_eq_true h2, Nat.eq_of_beq_eq_true h3, Nat.eq_of_beq_eq_true h4]
  · simp only [avB, Bool.and_eq_true] at h
    rw [Nat.eq_of_beq_eq_true h.1, Nat.eq_of_beq_eq_true h.2]
  · rw [Nat.eq_of_beq_eq_true h]
  · rw [Nat.eq_of_beq_eq_true h]
/-- Two values alike. -/
def alikeC (u av : AV) : Cd := match AV.den noE u, AV.den noE av with
  | some x, some y => cv x y
  | _, _ => ⟨u = av, avB u av, avB_eq⟩
theorem alikeC_den {u av : AV} (h : (alikeC u av).p) {ρ : Env} {v : Value} (hu : u.den ρ = some v) : av.den ρ = some v := by
  unfold alikeC at h
  split at h
  · rename_i x y hx hy
    have h : x = y := h
    subst h
    rw [AV.den_mono (noE_le ρ) _ _ hx] at hu
    cases hu
    exact AV.den_mono (noE_le ρ) _ _ hy
  · have h : u = av := h
    subst h
    exact hu

/-- The floats of a region are quiet, and give what they gave, wherever they are run. -/
def flOk (cfg : Cfg) (ops : List Oper) (cl : List Nat) (full : List Res) (fl : Nat) (T : List (Nat × AV)) (H : List (Nat × Chunk)) : List Res → Bool
  | [] => true
  | ⟨i, dst, av, N, _, _⟩ :: R => match bitAt fl i with
    | false => flOk cfg ops cl full fl T H R
    | true => match nth ops i, dst, av, N with
      | some o, some d, av, [] => match look d T, o.guard, kindOf o.op, pureOp cfg (flT cl fl full i T) H none none o [] with
        | none, none, 0, some (_, _) => match Nat.blt d cfg.nt with
          | true => flOk cfg ops cl full fl T H R
          | false => false
        | _, _, _, _ => false
      | _, _, _, _ => false
/-- .. and what they give is what they gave. -/
def flCs (cfg : Cfg) (ops : List Oper) (cl : List Nat) (full : List Res) (fl : Nat) (T : List (Nat × AV)) (H : List (Nat × Chunk)) : List Res → List Cd
  | [] => []
  | ⟨i, _, av, _, _, _⟩ :: R => match bitAt fl i with
    | false => flCs cfg ops cl full fl T H R
    | true => match nth ops i, av with
      | some o, av => match pureOp cfg (flT cl fl full i T) H none none o [] with
        | some (u, acc) => alikeC u av :: (acc ++ flCs cfg ops cl full fl T H R)
        | _ => flCs cfg ops cl full fl T H R
      | _, _ => flCs cfg ops cl full fl T H R
structure FlAt (cfg : Cfg) (ops : Array Oper) (cl : List Nat) (full : List Res) (fl : Nat) (T : List (Nat × AV)) (H : List (Nat × Chunk)) (r : Res) (o : Oper) (d : Tmp) : Prop where
  op : ops[r.i]? = some o
  dst : r.dst = some d
  N : r.N = []
  free : look d T = none
  guard : o.guard = none
  lt : d < cfg.nt
  run : ∃ u acc, pureOp cfg (flT cl fl full r.i T) H none none o [] = some (u, acc) ∧ All acc ∧ (alikeC u r.av).p
theorem flOk_mem {cfg : Cfg} {ops : Array Oper} {cl : List Nat} {full : List Res} {fl : Nat} {T : List (Nat × AV)} {H : List (Nat × Chunk)} : ∀ {R : List Res}, flOk cfg ops.toList cl full fl T H R = true → All (flCs cfg ops.toList cl full fl T H R) → ∀ r ∈ R, fl.testBit r.i = true → ∃ o d, FlAt cfg ops cl full fl T H r o d
  | [], _, _, r, hr, _ => by cases hr
  | x :: R, h, hc, r, hr, hb => by
    obtain ⟨i, dst, av, N, lo, hi⟩ := x
    simp only [flOk] at h
    simp only [flCs] at hc
    split at h
    · rename_i hbi
      rw [hbi] at hc
      rcases List.mem_cons.1 hr with rfl | hr
      · rw [bitAt_eq] at hbi; rw [hbi] at hb; cases hb
      · exact flOk_mem h hc r hr hb
    · rename_i hbi
      rw [hbi] at hc
      split at h
      · rename_i av _ _ _ _ o d h1
        split at h
        · rename_i u acc h2 h3 h4 h5
          split at h
          · rename_i h6
            simp only [h1, h5] at hc
            obtain ⟨hu, hc2⟩ := hc
            obtain ⟨ha, hc3⟩ := all_append.1 hc2
            rcases List.mem_cons.1 hr with rfl | hr
            · rw [nth_eq, Array.getElem?_toList] at h1
              exact ⟨o, d, h1, rfl, rfl, h2, h3, Nat.le_of_ble_eq_true h6, u, acc, h5, ha, hu⟩
            · exact flOk_mem h hc3 r hr hb
          · cases h
        · cases h
      · cases h

def dstApart (d : Option Tmp) (fl : Nat) : List Res → Bool
  | [] => true
  | ⟨i, dst, _, _, _, _⟩ :: R => match bitAt fl i with
    | false => dstApart d fl R
    | true => match d, dst with
      | some d, some d' => match Nat.beq d d' with | true => false | false => dstApart (some d) fl R
      | d, _ => dstApart d fl R
theorem dstApart_mem {d : Option Tmp} {fl : Nat} : ∀ {R : List Res}, dstApart d fl R = true → ∀ r ∈ R, fl.testBit r.i = true → ∀ k, r.dst = some k → d ≠ some k
  | [], _, r, hr, _, _, _ => by cases hr
  | x :: R, h, r, hr, hb, k, hk => by
    obtain ⟨i, dst, av, N, lo, hi⟩ := x
    simp only [dstApart] at h
    split at h
    · rename_i hbi
      rcases List.mem_cons.1 hr with rfl | hr
      · rw [bitAt_eq] at hbi; rw [hbi] at hb; cases hb
      · exact dstApart_mem h r hr hb k hk
    · split at h
      · split at h
        · cases h
        · rename_i hne
          rcases List.mem_cons.1 hr with rfl | hr
          · cases hk
            rintro e
            cases e
            simp at hne
          · exact dstApart_mem h r hr hb k hk
      · rename_i hno
        rcases List.mem_cons.1 hr with rfl | hr
        · rintro rfl
          exact hno _ _ rfl hk
        · exact dstApart_mem h r hr hb k hk

/-- The forced operations in their order; each one sees the floats for which it waits. -/
def runB (cfg : Cfg) (t : Told) (ops : List Oper) (cl : List Nat) (R : List Res) : Nat → List Oper → Nat → List (Nat × AV) → List (Nat × Chunk) → Nat → List (List Cd) → Option (St × List (List Cd))
  | _, [], fl, T, H, nx, css => match flOk cfg ops cl R fl T H R with
    | true => forceK (tE (bitAt fl) R ++ T) [] fun T' => forceK (flCs cfg ops cl R fl T H R) [] fun fc => some (⟨T', H, nx⟩, fc :: css)
    | false => none
  | j, o :: rest, fl, T, H, nx, css => match flOk cfg ops cl R fl T H R, nth cl j, dstApart o.dst fl R with
    | true, some c, true => match stepOp cfg t ops j o (tE (bitAt (Nat.land fl c)) R ++ T) H nx [] with
      | some (⟨T', H', nx'⟩, cs) => forceK (flCs cfg ops cl R fl T H R) [] fun fc => runB cfg t ops cl R (j + 1) rest (Nat.xor fl (Nat.land fl c)) T' H' nx' (fc :: cs :: css)
      | none => none
    | _, _, _ => none
theorem runB_acc {cfg : Cfg} {t : Told} {ops : List Oper} {cl : List Nat} {R : List Res} : ∀ {rest : List Oper} {j fl : Nat} {T : List (Nat × AV)} {H : List (Nat × Chunk)} {nx : Nat} {css css' : List (List Cd)} {s : St}, runB cfg t ops cl R j rest fl T H nx css = some (s, css') → AllL css' → AllL css
  | [], j, fl, T, H, nx, css, css', s, h, hc => by
    simp only [runB, force_eq] at h
    split at h
    · cases h; exact hc.2
    · cases h
  | o :: rest, j, fl, T, H, nx, css, css', s, h, hc => by
    simp only [runB, force_eq] at h
    split at h
    · split at h
      · exact (runB_acc h hc).2.2
      · cases h
    · cases h

def fullF (cl : List Nat) (m fl : Nat) : Nat → Bool
  | 0 => true
  | n + 1 => match Nat.blt n m with
    | true => true
    | false => match nth cl n with
      | some c => match Nat.beq (Nat.land (Nat.lor c fl) (Nat.shiftLeft 1 n - 1)) (Nat.shiftLeft 1 n - 1) with
        | true => fullF cl m fl n
        | false => false
      | none => false
theorem fullF_mem {cl : List Nat} {m fl : Nat} : ∀ {n : Nat}, fullF cl m fl n = true → ∀ i, m ≤ i → i < n → ∃ c, nth cl i = some c ∧ ∀ k, k < i → fl.testBit k = false → c.testBit k = true
  | 0, _, i, _, hi => by omega
  | n + 1, h, i, hm, hi => by
    simp only [fullF] at h
    split at h
    · rename_i hb
      have : n < m := Nat.le_of_ble_eq_true hb
      omega
    · split at h
      · rename_i c hc
        split at h
        · rename_i hb
          by_cases e : i = n
          · subst e
            refine ⟨c, hc, fun k hk hf => ?_⟩
            have h1 : (c ||| fl) &&& (1 <<< i - 1) = 1 <<< i - 1 := Nat.eq_of_beq_eq_true hb
            have h2 : ((c ||| fl) &&& (1 <<< i - 1)).testBit k = true := by
              rw [h1, Nat.one_shiftLeft, Nat.testBit_two_pow_sub_one]; simpa using hk
            rw [Nat.testBit_and, Nat.testBit_or, Bool.and_eq_true, Bool.or_eq_true] at h2
            rcases h2.1 with h3 | h3
            · exact h3
            · rw [hf] at h3; cases h3
          · exact fullF_mem h i hm (by omega)
        · cases h
      · cases h

section
variable {cfg : Cfg} {F : Frm} {t : Told} {ops : Array Oper} {cl : List Nat} {T0 : List (Nat × AV)} {H0 : List (Nat × Chunk)} {nx0 m : Nat} {R : List Res} {s' : St} {css' : List (List Cd)} {Q : Exit → St → Prop}

/-- The floats that are listed have been run. -/
def FlVals (fl : Nat) (R : List Res) (listed : Array Bool) (ρ : Env) (a : Act) : Prop := ∀ r ∈ R, fl.testBit r.i = true → got listed r.i = true → ∀ d, r.dst = some d → ∃ v, r.av.den ρ = some v ∧ a.tmps[d]? = some v

theorem holdsFl {fl : Nat} {T : List (Nat × AV)} {H : List (Nat × Chunk)} {nx : Nat} {ρ : Env} {a : Act} {w : World} {listed : Array Bool} (hfl : flOk cfg ops.toList cl R fl T H R = true) (hfc : All (flCs cfg ops.toList cl R fl T H R)) (hH : Holds F T H nx ρ a w) {D : Nat → Bool} (hD : ∀ i, D i = true → fl.testBit i = true ∧ got listed i = true) (hv : FlVals fl R listed ρ a) :
    Holds F (tE D R ++ T) H nx ρ a w := by
  refine ⟨hH.m, { hH.I with tm := fun k av e => ?_ }⟩
  rw [look_append] at e
  cases h1 : look k (tE D R) with
  | some u =>
    rw [h1] at e
    cases e
    obtain ⟨r, h2, h3, h4, rfl⟩ := tE_look h1
    obtain ⟨h5, h6⟩ := hD _ h3
    exact hv r h2 h5 h6 k h4
  | none =>
    rw [h1] at e
    exact hH.I.tm k av (by simpa using e)

def Stand2 (cfg : Cfg) (F : Frm) (t : Told) (ops : Array Oper) (cl : List Nat) (fl0 : Nat) (T0 : List (Nat × AV)) (H0 : List (Nat × Chunk)) (nx0 m : Nat) (R : List Res) (s' : St) (css' : List (List Cd)) (listed : Array Bool) (a : Act) (w : World) : Prop :=
  ((∃ i, i < m ∧ fl0.testBit i = false ∧ got listed i = false) ∧ (∀ i, got listed i = true → i < m) ∧ ∃ ρ, Part F T0 H0 nx0 R (got listed) ρ a w) ∨
  (∃ j fl T H nx css ρ, m ≤ j ∧ j ≤ ops.size ∧ (∀ i, fl.testBit i = true → fl0.testBit i = true) ∧ (∀ i, i < m → fl.testBit i = false → got listed i = true) ∧ (∀ i, m ≤ i → (got listed i = true ↔ i < j)) ∧
    runB cfg t ops.toList cl R j (ops.toList.drop j) fl T H nx css = some (s', css') ∧ Holds F T H nx ρ a w ∧ FlVals fl R listed ρ a)

theorem runB_fl {fl j : Nat} {rest : List Oper} {T : List (Nat × AV)} {H : List (Nat × Chunk)} {nx : Nat} {css : List (List Cd)} (h : runB cfg t ops.toList cl R j rest fl T H nx css = some (s', css')) (hc : AllL css') : flOk cfg ops.toList cl R fl T H R = true ∧ All (flCs cfg ops.toList cl R fl T H R) := by
  cases rest with
  | nil =>
    simp only [runB, force_eq] at h
    split at h
    · rename_i h1; cases h; exact ⟨h1, hc.1⟩
    · cases h
  | cons o rest =>
    simp only [runB, force_eq] at h
    split at h
    · rename_i h1 _ _
      split at h
      · exact ⟨h1, (runB_acc h hc).1⟩
      · cases h
    · cases h

theorem drawn_sound2 {fl0 : Nat} (hC : CfgOk F cfg) (ht : t.ok F.P) (hcl : clOk cl ops.size ops.toList 0 = true) (hfull : fullF cl m fl0 ops.size = true) (hfm : ∀ i, fl0.testBit i = true → i < m) (hg : Good cfg t ops cl T0 H0 nx0 R) (hRl : R.length = m) (hmn : m ≤ ops.size) (hH0 : ∀ i c, look i H0 = some c → i < nx0) (hm : F.m ≤ nx0)
    {css1 : List (List Cd)} (hrun : runB cfg t ops.toList cl R m (ops.toList.drop m) fl0 (tE (fun i => !fl0.testBit i) R ++ T0) (hE (fun i => !fl0.testBit i) R ++ H0) (nxOf nx0 R) css1 = some (s', css')) (hc : AllL css') (hq : Q .normal s') :
    ∀ (fuel : Nat) (listed : Array Bool) (a : Act) (w : World), listed.size = ops.size → Closed cl listed → (List.range ops.size).countP (fun i => !got listed i) ≤ fuel → Stand2 cfg F t ops cl fl0 T0 H0 nx0 m R s' css' listed a w →
      wpAnyIn (fen F.rd) 2 F.P .any ops (Post F Q) fuel listed a w := by
  have hcm : ∀ i o, ops[i]? = some o → ∃ c, nth cl i = some c ∧ (∀ e ∈ o.after, Region.binds .any e = true → e.on < i) ∧
      (∀ k, c.testBit k = true → ∃ e ∈ o.after, Region.binds .any e = true ∧ (k = e.on ∨ ∃ c', nth cl e.on = some c' ∧ c'.testBit k = true)) := by
    intro i o h
    obtain ⟨c, h1, h2, h3, _⟩ := clOk_mem hcl i o (by rw [Array.getElem?_toList]; exact h)
    exact ⟨c, by simpa using h1, by simpa using h2, h3⟩
  have waits : ∀ {listed : Array Bool} {i : Nat} {o : Oper}, Closed cl listed → ops[i]? = some o → (∀ e ∈ o.after, Region.binds .any e = true → got listed e.on = true) → ∀ c k, nth cl i = some c → c.testBit k = true → got listed k = true := by
    intro listed i o hcd ho hdep c k h1 h2
    obtain ⟨c', a1, _, a3⟩ := hcm i o ho
    rw [h1] at a1; cases a1
    obtain ⟨e, b1, b2, b3⟩ := a3 k h2
    have := hdep e b1 b2
    rcases b3 with rfl | ⟨c', b4, b5⟩
    · exact this
    · exact hcd e.on c' k this b4 b5
  have some_ready : ∀ {listed : Array Bool}, listed.size = ops.size → ∀ i, i < ops.size → got listed i = false → ∃ j, j ∈ Region.ready .any ops listed := by
    intro listed hs i
    induction i using Nat.strongRecOn with
    | _ i ih =>
      intro hi hn
      by_cases hall : ∀ e ∈ (ops[i]).after, Region.binds .any e = true → got listed e.on = true
      · exact ⟨i, (ready_iff hs).2 ⟨ops[i], by simp [hi], hn, hall⟩⟩
      · have : ∃ e ∈ (ops[i]).after, Region.binds .any e = true ∧ got listed e.on = false := by
          refine Classical.byContradiction fun hcon => ?_
          refine hall fun e he hb => ?_
          by_cases hge : got listed e.on = true
          · exact hge
          · exact absurd ⟨e, he, hb, by simpa using hge⟩ hcon
        obtain ⟨e, he, hb, hge⟩ := this
        obtain ⟨_, _, h2, _⟩ := hcm i ops[i] (by simp [hi])
        have hlt := h2 e he hb
        exact ih e.on hlt (by omega) hge
  have hid : ∀ x ∈ R, x ∈ R := fun _ h => h
  have toB : ∀ {listed : Array Bool} {ρ : Env} {a : Act} {w : World}, (∀ i, i < m → fl0.testBit i = false → got listed i = true) → Part F T0 H0 nx0 R (got listed) ρ a w →
      Holds F (tE (fun i => !fl0.testBit i) R ++ T0) (hE (fun i => !fl0.testBit i) R ++ H0) (nxOf nx0 R) ρ a w ∧ FlVals fl0 R listed ρ a := by
    intro listed ρ a w hl hp
    have hge := hg.ge
    have hall : ∀ x ∈ R, (fun i : Nat => !fl0.testBit i) x.i = true → got listed x.i = true ∧ x ∈ R := fun x hx h => ⟨hl x.i (by rw [← hRl]; exact (hge.2 x hx).2.2) (by simpa using h), hx⟩
    refine ⟨⟨by omega, Interp.sub hp (fun i L _ h => ?_) (fun k v h => hg.tSub hid hid hall h) (fun k v h => hg.hSub hH0 hid hid hall h)⟩, fun r hr _ hgr d hd => ?_⟩
    · rcases h with h | ⟨r, h1, _, h2, h3⟩
      · show i < _; omega
      · have := (hge.2 r h1).2.1; show i < _; omega
    · have hin := hg.tIn hid r hr hgr d hd
      obtain ⟨v', h1, h2⟩ := hp.tm d r.av (by rw [look_append, hin]; rfl)
      exact ⟨v', h1, h2⟩
  have final : ∀ {listed : Array Bool} {a : Act} {w : World}, listed.size = ops.size → (∀ i, i < ops.size → got listed i = true) → Stand2 cfg F t ops cl fl0 T0 H0 nx0 m R s' css' listed a w → Post F Q .normal a w := by
    intro listed a w hs hall hst
    rcases hst with ⟨⟨i, h1, _, h2⟩, _⟩ | ⟨j, fl, T, H, nx, css, ρ, h1, h2, hf, hl, h3, h4, h5, h6⟩
    · rw [hall i (by omega)] at h2; cases h2
    · have hj : j = ops.size := by
        rcases Nat.lt_or_ge j ops.size with h | h
        · exact absurd ((h3 j h1).1 (hall j h)) (by omega)
        · omega
      rw [hj, List.drop_of_length_le (by simp)] at h4
      simp only [runB, force_eq] at h4
      split at h4
      · rename_i hfl
        cases h4
        refine ⟨_, ρ, hq, holdsFl hfl hc.1 h5 (fun i hi => ?_) h6⟩
        rw [bitAt_eq] at hi
        exact ⟨hi, hall i (by have := hfm i (hf i hi); omega)⟩
      · cases h4
  intro fuel
  induction fuel with
  | zero =>
    intro listed a w hs hcd hcount hst
    have hall : ∀ i, i < ops.size → got listed i = true := by
      intro i hi
      have h0 : (List.range ops.size).countP (fun i => !got listed i) = 0 := by omega
      rw [List.countP_eq_zero] at h0
      have := h0 i (List.mem_range.2 hi)
      simpa using this
    refine ⟨?_, final hs hall hst⟩
    rw [List.eq_nil_iff_forall_not_mem]
    intro i hi
    obtain ⟨o, h1, h2, _⟩ := (ready_iff hs).1 hi
    rw [hall i (Array.getElem?_eq_some_iff.1 h1).1] at h2; cases h2
  | succ fuel ih =>
    intro listed a w hs hcd hcount hst
    have next : ∀ {i : Nat} {o : Oper}, ops[i]? = some o → got listed i = false → (∀ e ∈ o.after, Region.binds .any e = true → got listed e.on = true) → (listed.setIfInBounds i true).size = ops.size ∧ Closed cl (listed.setIfInBounds i true) ∧
        (List.range ops.size).countP (fun k => !got (listed.setIfInBounds i true) k) ≤ fuel := by
      intro i o ho hn hdep
      have hi : i < listed.size := by rw [hs]; exact (Array.getElem?_eq_some_iff.1 ho).1
      refine ⟨by simp [hs], fun x c k h1 h2 h3 => ?_, ?_⟩
      · rw [got_set hi] at h1 ⊢
        rcases h1 with h1 | rfl
        · exact .inl (hcd x c k h1 h2 h3)
        · exact .inl (waits hcd ho hdep c k h2 h3)
      · have := countP_lt (p := fun k => !got listed k) (q := fun k => !got (listed.setIfInBounds i true) k) (l := List.range ops.size) (x := i) (List.mem_range.2 (by omega)) (fun y hy => ?_) (by simp [hn]) (by
          have := (got_set hi i).2 (.inr rfl); simp [this])
        · omega
        · simp only [Bool.not_eq_true', Bool.not_eq_true] at hy ⊢
          cases h : got listed y with
          | false => rfl
          | true => rw [(got_set hi y).2 (.inl h)] at hy; cases hy
    refine ⟨fun hempty => final hs (fun i hi => ?_) hst, fun i hi => ?_⟩
    · cases hx : got listed i with
      | true => rfl
      | false =>
        obtain ⟨k, hk⟩ := some_ready hs i hi hx
        rw [hempty] at hk; cases hk
    · obtain ⟨o, h1, h2, h3⟩ := (ready_iff hs).1 hi
      obtain ⟨b1, b2, b3⟩ := next h1 h2 h3
      have hil : i < listed.size := by rw [hs]; exact (Array.getElem?_eq_some_iff.1 h1).1
      have nonfl : ∀ k, m ≤ k → fl0.testBit k = false := fun k hk => by
        cases hx : fl0.testBit k with
        | false => rfl
        | true => have := hfm k hx; omega
      rcases hst with ⟨⟨u, hu1, hu3, hu2⟩, hst1, ρ, hp⟩ | ⟨j, fl, T, H, nx, css, ρ, hmj, hjn, hff, hl, hlj, hr, hH, hv⟩
      · have him : i < m := by
          rcases Nat.lt_or_ge i m with h | h
          · exact h
          · obtain ⟨c, a1, a2⟩ := fullF_mem hfull i h (by omega)
            have := waits hcd h1 h3 c u a1 (a2 u (by omega) hu3)
            rw [this] at hu2; cases hu2
        obtain ⟨r, hr, hri⟩ := hg.get i (by omega)
        subst hri
        refine part_step (Q := Post F Q) hC ht hg hH0 hm hp hr h2 (fun c k hcc hb => ?_) (D' := got (listed.setIfInBounds r.i true)) (fun k => got_set hil k) fun ρ' a' w' hp' => ih _ a' w' b1 b2 b3 ?_
        · rw [bitAt_eq] at hb
          exact waits hcd h1 h3 c k hcc hb
        · have hl' : ∀ k, got (listed.setIfInBounds r.i true) k = true → k < m := fun k hk => by
            rcases (got_set hil k).1 hk with h | rfl
            · exact hst1 k h
            · exact him
          by_cases hall : ∃ k, k < m ∧ fl0.testBit k = false ∧ got (listed.setIfInBounds r.i true) k = false
          · exact .inl ⟨hall, hl', ρ', hp'⟩
          · have hall' : ∀ k, k < m → fl0.testBit k = false → got (listed.setIfInBounds r.i true) k = true := fun k hk hf => by
              cases hx : got (listed.setIfInBounds r.i true) k with
              | true => rfl
              | false => exact absurd ⟨k, hk, hf, hx⟩ hall
            obtain ⟨c1, c2⟩ := toB hall' hp'
            exact .inr ⟨m, fl0, _, _, _, css1, ρ', Nat.le_refl _, hmn, fun _ h => h, hall', fun k hk => ⟨fun h => (by have := hl' k h; omega), fun h => (by omega)⟩, hrun, c1, c2⟩
      · obtain ⟨hfl, hfc⟩ := runB_fl hr hc
        rcases Nat.lt_or_ge i m with him | him
        · -- a float
          have hfi : fl.testBit i = true := by
            cases hx : fl.testBit i with
            | true => rfl
            | false => rw [hl i him hx] at h2; cases h2
          obtain ⟨r, hrR, hri⟩ := hg.get i (by omega)
          subst hri
          obtain ⟨o', d, hf⟩ := flOk_mem hfl hfc r hrR hfi
          have : o' = o := by have := hf.op; rw [h1] at this; cases this; rfl
          subst this
          obtain ⟨_, _, o2, _, _, g1, g2, _⟩ := (hg.key r hrR).2.2
          have : o2 = o' := by rw [h1] at g1; cases g1; rfl
          subst this
          have hod : o2.dst = some d := by rw [← g2]; exact hf.dst
          obtain ⟨fav, facc, hfrun, hfacc, hfden⟩ := hf.run
          have hTi : Holds F (flT cl fl R r.i T) H nx ρ a w := by
            unfold flT
            split
            · rename_i c hcj
              have bits : ∀ k, bitAt (Nat.land fl c) k = true → fl.testBit k = true ∧ c.testBit k = true := by
                intro k hk
                rw [bitAt_eq] at hk
                have : (fl &&& c).testBit k = true := hk
                rw [Nat.testBit_and, Bool.and_eq_true] at this
                exact this
              exact holdsFl hfl hfc hH (D := bitAt (Nat.land fl c)) (fun k hk => ⟨(bits k hk).1, waits hcd h1 h3 c k hcj (bits k hk).2⟩) hv
            · exact hH
          have hk0 : Know cfg F.P (fun k => look k (flT cl fl R r.i T)) (fun k => look k H) ρ a w := hC.know hTi.I
          obtain ⟨_, u, e1, e2⟩ := pureOp_sound hk0 (fun c e => by cases e) hfrun hfacc
          have e3 := alikeC_den hfden e1
          have hw : Region.wanted o2 (yielded ops a.tmps) = true := by simp [Region.wanted, hf.guard]
          refine wpOpIn_on h1 hw (wpIn_ok (pureOp_nd hfrun) e2 (.inl rfl) (ih _ _ _ b1 b2 b3 (.inr ⟨j, fl, T, H, nx, css, ρ, hmj, hjn, hff, fun k hk hf' => (got_set hil k).2 (.inl (hl k hk hf')), fun k hk => ?_, hr, ⟨hH.m, ?_⟩, fun r' hr' hb' hg' d' hd' => ?_⟩)))
          · rw [got_set hil, hlj k hk]
            constructor
            · rintro (h | h)
              · exact h
              · omega
            · exact .inl
          · have hput := hH.I.put o2.dst (av := r.av) (v := u) (fun k e => by rw [hod] at e; cases e; rw [← hC.nt]; exact hf.lt) e3
            refine hput.sub (fun _ _ _ h => h) (fun k u' h => ?_) (fun _ _ h => h)
            rw [hod]
            simp only [updO]
            have : k ≠ d := by rintro rfl; rw [hf.free] at h; cases h
            rw [upd_other _ _ this]
            exact h
          · rw [hod]
            by_cases he : r'.i = r.i
            · have := hg.same r' hr' r hrR he
              subst this
              rw [hf.dst] at hd'; cases hd'
              refine ⟨u, e3, put_at _ ?_⟩
              rw [hH.I.size, ← hC.nt]; exact hf.lt
            · have hne := (hg.uniq r' hr' r hrR he).1 d' hd'
              rw [hf.dst] at hne
              have : d' ≠ d := fun e => hne (by rw [e])
              rw [put_other _ this]
              refine hv r' hr' hb' ?_ d' hd'
              rcases (got_set hil r'.i).1 hg' with h | h
              · exact h
              · exact absurd h he
        · -- a forced one
          have hij : i = j := by
            have hji : ¬ i < j := fun h => by rw [(hlj i him).2 h] at h2; cases h2
            by_cases hij : i = j
            · exact hij
            · obtain ⟨c, a1, a2⟩ := fullF_mem hfull i him (by omega)
              have := waits hcd h1 h3 c j a1 (a2 j (by omega) (nonfl j hmj))
              have := (hlj j hmj).1 this
              omega
          subst hij
          have hj : i < ops.size := by omega
          have hdrop : ops.toList.drop i = o :: ops.toList.drop (i + 1) := by
            rw [List.drop_eq_getElem_cons (by simpa using hj)]
            congr 1
            have := (Array.getElem?_eq_some_iff.1 h1).2
            simpa using this
          rw [hdrop] at hr
          simp only [runB, force_eq] at hr
          split at hr
          · rename_i c _ hcj hap
            split at hr
            · rename_i T' H' nx' cs hst'
              have hcs : All cs := (runB_acc hr hc).2.1
              have bits : ∀ k, bitAt (Nat.land fl c) k = true → fl.testBit k = true ∧ c.testBit k = true := by
                intro k hk
                rw [bitAt_eq] at hk
                have : (fl &&& c).testBit k = true := hk
                rw [Nat.testBit_and, Bool.and_eq_true] at this
                exact this
              have hTj := holdsFl hfl hfc hH (D := bitAt (Nat.land fl c)) (fun k hk => ⟨(bits k hk).1, waits hcd h1 h3 c k hcj (bits k hk).2⟩) hv
              have step := (stepOp_sound (Q := Post F Q) (rd := F.rd) hC ht hTj h1 hst' hcs (K := fun a' w' => ∃ ρ', Env.le ρ ρ' ∧ Holds F T' H' nx' ρ' a' w') (fun ρ' a' w' hle hH' => ⟨ρ', hle, hH'⟩)).2
              refine wpOpIn_mono (fun a' w' hk => ?_) (wpOp_frame h1 step)
              obtain ⟨⟨ρ', hle, hH'⟩, hfr⟩ := hk
              have xor : ∀ k, (Nat.xor fl (Nat.land fl c)).testBit k = (fl.testBit k && !c.testBit k) := by
                intro k
                show (fl ^^^ (fl &&& c)).testBit k = _
                rw [Nat.testBit_xor, Nat.testBit_and]
                cases fl.testBit k <;> cases c.testBit k <;> rfl
              refine ih _ a' w' b1 b2 b3 (.inr ⟨i + 1, _, T', H', nx', _, ρ', by omega, by omega, fun k hk => hff k ?_, fun k hk hf' => ?_, fun k hk => ?_, hr, hH', fun r' hr' hb' hg' d' hd' => ?_⟩)
              · rw [xor, Bool.and_eq_true] at hk; exact hk.1
              · rw [got_set hil]
                rw [xor] at hf'
                left
                cases hx : fl.testBit k with
                | false => exact hl k hk hx
                | true =>
                  rw [hx] at hf'
                  have : c.testBit k = true := by simpa using hf'
                  exact waits hcd h1 h3 c k hcj this
              · rw [got_set hil, hlj k hk]; omega
              · rw [xor, Bool.and_eq_true] at hb'
                rw [hfr d' (dstApart_mem hap r' hr' hb'.1 d' hd')]
                suffices h : ∃ v, r'.av.den ρ = some v ∧ a.tmps[d']? = some v by
                  obtain ⟨v, h1, h2⟩ := h
                  exact ⟨v, AV.den_mono hle _ _ h1, h2⟩
                refine hv r' hr' hb'.1 ?_ d' hd'
                rcases (got_set hil r'.i).1 hg' with h | h
                · exact h
                · have := hfm r'.i (hff _ hb'.1); omega
            · cases hr
          · cases hr

/-- Some of the first operations are no floats. -/
def nonFl (fl : Nat) : Nat → Bool
  | 0 => false
  | n + 1 => match bitAt fl n with
    | false => true
    | true => nonFl fl n
theorem nonFl_mem {fl : Nat} : ∀ {n : Nat}, nonFl fl n = true → ∃ i, i < n ∧ fl.testBit i = false
  | 0, h => by cases h
  | n + 1, h => by
    simp only [nonFl] at h
    split at h
    · rename_i hb; rw [bitAt_eq] at hb; exact ⟨n, Nat.lt_succ_self n, hb⟩
    · obtain ⟨i, h1, h2⟩ := nonFl_mem h; exact ⟨i, by omega, h2⟩
def runDrawn2 (cfg : Cfg) (t : Told) (cl : List Nat) (m fl : Nat) (ops : List Oper) (T : List (Nat × AV)) (H : List (Nat × Chunk)) (nx : Nat) : Option (St × List (List Cd)) :=
  match clOk cl ops.length ops 0 && fullF cl m fl ops.length && Nat.blt fl (Nat.shiftLeft 1 m) && Nat.blt 0 m && nonFl fl m with
  | true => forceK (delKeys ops m T) [] fun T0 => match stab cfg t ops cl T0 H m 0 ops nx [] [] with
    | some (R, nx1, css) => forceK (tE (fun i => !bitAt fl i) R ++ T0) [] fun T1 => forceK (hE (fun i => !bitAt fl i) R ++ H) [] fun H1 => runB cfg t ops cl R m (ops.drop m) fl T1 H1 nx1 css
    | none => none
  | false => none

theorem lwp_drawn2 (hC : CfgOk F cfg) (hmx : F.P.follows .mixedOrders = true) (t : Told) (ht : t.ok F.P) (cl : List Nat) (m fl : Nat) {id : Nat} {ops : Array Oper} {T : List (Nat × AV)} {H : List (Nat × Chunk)} {nx : Nat} {s' : St} {css : List (List Cd)}
    (h : runDrawn2 cfg t cl m fl ops.toList T H nx = some (s', css)) (hc : AllL css) (hq : Q .normal s') : LWP F (.region id ops true) Q ⟨T, H, nx⟩ := ⟨fun ρ a w hs => by
  unfold runDrawn2 at h
  split at h
  case h_2 => cases h
  rename_i hb
  simp only [Bool.and_eq_true] at hb
  obtain ⟨⟨⟨⟨hcl, hfull⟩, hflt⟩, hm0⟩, hf0'⟩ := hb
  obtain ⟨i0, hi0, hf0⟩ := nonFl_mem hf0'
  rw [force_eq] at h
  split at h
  case h_2 => cases h
  rename_i R nx1 css1 hstab
  simp only [force_eq] at h
  have hs1 : Holds F T H nx ρ a { w with drawn := w.drawn + 1 } := Holds.drew hs
  obtain ⟨_, hg, hRl, hnx⟩ := stab_good (nx0 := nx) hstab (fun k => by simp) trivial rfl rfl (runB_acc h hc)
  subst hnx
  have hRl : R.length = m := by omega
  have hm0 : 0 < m := Nat.le_of_ble_eq_true hm0
  have hfm : ∀ i, fl.testBit i = true → i < m := by
    intro i hi
    have h1 : fl < 2 ^ m := by have := Nat.le_of_ble_eq_true hflt; rwa [show Nat.shiftLeft 1 m = 2 ^ m from Nat.one_shiftLeft m] at this
    rcases Nat.lt_or_ge i m with h2 | h2
    · exact h2
    · have : fl < 2 ^ i := Nat.lt_of_lt_of_le h1 (Nat.pow_le_pow_right (by decide) h2)
      rw [Nat.testBit_lt_two_pow this] at hi
      cases hi
  have hmn : m ≤ ops.size := by
    rcases Nat.lt_or_ge ops.size m with hlt | hge
    · obtain ⟨r, hr, hri⟩ := hg.get (m - 1) (by omega)
      obtain ⟨_, _, _, _, o, _, _, e, _⟩ := hg.key r hr
      have := (Array.getElem?_eq_some_iff.1 e).1
      omega
    · exact hge
  have hH0 : ∀ i c, look i H = some c → i < nx := by
    intro i c e
    have hh := hs1.I.heap.holds i c e
    have : ∃ L, ρ i = some L := by
      cases c with
      | blk t l => obtain ⟨g, cap, vs, e, _⟩ := hh; exact ⟨_, e⟩
      | rb t l => obtain ⟨g, cap, vs, e, _⟩ := hh; exact ⟨_, e⟩
      | row t n sz c => obtain ⟨L, vs, e, _⟩ := hh; exact ⟨_, e⟩
      | ro n sz c => obtain ⟨L, vs, e, _⟩ := hh; exact ⟨_, e⟩
      | obj k => obtain ⟨g, cap, o, e, _⟩ := hh; exact ⟨_, e⟩
      | fam => obtain ⟨L, e, _⟩ := hh; exact ⟨_, e⟩
    obtain ⟨L, hL⟩ := this
    exact hs1.I.dom i L hL
  have hbit : (fun i => !bitAt fl i) = fun i => !fl.testBit i := funext fun i => by rw [bitAt_eq]
  rw [hbit] at h
  refine wpIn_region_any hmx ?_
  have hgot0 : ∀ k, got (Array.replicate ops.size false) k = false := by
    intro k; unfold got; rw [Array.getD_eq_getD_getElem?, Array.getElem?_replicate]; split <;> rfl
  rw [Array.length_toList] at hcl hfull
  refine drawn_sound2 hC ht hcl hfull hfm hg hRl hmn hH0 hs1.m h hc hq ops.size _ a _ (by simp) (fun i c k hi => (by rw [hgot0] at hi; cases hi)) (by have := List.countP_le_length (p := fun i => !got (Array.replicate ops.size false) i) (l := List.range ops.size); simpa using this) ?_
  have hT0 : Interp F (fun i => i < nx) (fun k => look k (delKeys ops.toList m T)) (fun k => look k H) ρ a { w with drawn := w.drawn + 1 } := hs1.I.sub (fun _ _ _ h => h) (fun k v h => delKeys_look h) (fun _ _ h => h)
  have emptyT : ∀ {R : List Res} {D : Nat → Bool}, (∀ k, D k = false) → tE D R = [] ∧ hE D R = [] := by
    intro R D hD
    induction R with
    | nil => exact ⟨rfl, rfl⟩
    | cons r R ih => simp only [tE, hE, hD]; exact ih
  refine .inl ⟨⟨i0, hi0, hf0, hgot0 i0⟩, fun i hi => (by rw [hgot0] at hi; cases hi), ρ, ?_⟩
  unfold Part
  obtain ⟨e1, e2⟩ := emptyT (R := R) hgot0
  rw [e1, e2]
  exact hT0.sub (fun i L _ h => .inl h) (fun _ _ h => by simpa using h) (fun _ _ h => by simpa using h)⟩

end
end Go.Sym

namespace Go.Sym
open Go.RowKit

theorem wpIn_n {rd : Option Nat} {n m : Nat} {P : Program} {c : Code} {Q : Exit → Act → World → Prop} {a : Act} {w : World} (h : c.wpIn (fen rd) n P Q a w) : c.wpIn (fen rd) m P Q a w :=
  fun b k cs hro hb _ => h b k cs hro hb (fun d hd => by cases hd)

section
variable {F : Frm} {s : St} {ρ : Env} {a : Act} {w : World}

/-- The frame of code that is run within a call: with the world at hand as1 its first one. -/
def inner (F : Frm) (s : St) (ρ : Env) (w : World) (nt : Nat) (rd : Option Nat) : Frm := ⟨F.P, nt, s.nx, ρ, w, Owned ρ fun k => look k s.H, rd⟩

theorem inner_le {nt : Nat} {rd : Option Nat} {ρ' : Env} {s' : St} {a' : Act} {w' : World} (h : HoldsS F s ρ a w) (h' : HoldsS (inner F s ρ w nt rd) s' ρ' a' w') : Env.le ρ ρ' := fun i L e => by
  rw [h'.I.keep i (h.I.dom i L e)]; exact e

/-- What was known is known behind it. -/
theorem inner_join {nt : Nat} {rd : Option Nat} {ρ' : Env} {s' : St} {a' : Act} {w' : World} (h : HoldsS F s ρ a w) (h' : HoldsS (inner F s ρ w nt rd) s' ρ' a' w') : HoldsS F ⟨s.T, s'.H, s'.nx⟩ ρ' a w' := by
  have hle := inner_le h h'
  refine ⟨Nat.le_trans h.m h'.m, h.I.size, h.I.defers.keep (KeepM.touch h'.I.touch fun g ⟨i, c, e, _, hg⟩ => Chunk.holds_odd (h.I.heap.holds i c e) hg), fun k av e => ?_, h'.I.heap, h'.I.dom, fun i hi => ?_, fun g hg => ?_, h.I.touch.trans h'.I.touch fun g hg => (h.I.fresh g hg).elim .inr .inl⟩
  · obtain ⟨v, h1, h2⟩ := h.I.tm k av e
    exact ⟨v, AV.den_mono hle _ _ h1, h2⟩
  · rw [h'.I.keep i (Nat.lt_of_lt_of_le hi h.m)]; exact h.I.keep i hi
  · rcases h'.I.fresh g hg with h1 | h1
    · exact .inl (Nat.le_trans h.I.touch.size h1)
    · exact h.I.fresh g h1

theorem inner_cfg {cfg : Cfg} (hC : CfgOk F cfg) (h : HoldsS F s ρ a w) (nt : Nat) (rd : Option Nat) : CfgOk (inner F s ρ w nt rd) ⟨nt, cfg.tys, cfg.globs⟩ :=
  ⟨hC.tv, rfl, fun g i hm => by obtain ⟨h1, c, h2⟩ := hC.gl g i hm; exact ⟨Nat.lt_of_lt_of_le h1 h.m, c, (h.I.keep i h1).trans h2⟩⟩

theorem inner_start {nt : Nat} {rd : Option Nat} (h : HoldsS F s ρ a w) {T : List (Nat × AV)} {tmps : Array Value} (hs : tmps.size = nt) (ht : ∀ k av, look k T = some av → ∃ v, av.den ρ = some v ∧ tmps[k]? = some v) :
    HoldsS (inner F s ρ w nt rd) ⟨T, s.H, s.nx⟩ ρ { tmps := tmps, defers := [] } w :=
  ⟨Nat.le_refl _, hs, Marks.nil _ _, ht, h.I.heap, h.I.dom, fun _ _ => rfl, fun _ hg => .inr hg, Touch.refl _ _⟩

/-- A chunk that is no row is another one, and so is its block. -/
theorem holds_obj (h : HoldsS F s ρ a w) {k : Nat} {o o' : ObjK} (hk : look k s.H = some (.obj o)) {g cap : Nat} {ob ob' : Obj} (hρ : ρ k = some ⟨some ⟨g, 0, none⟩, cap⟩) (hg : w.heap[g]? = some ob) (ho : o'.is ρ ob') :
    HoldsS F ⟨s.T, setA k (.obj o') s.H, s.nx⟩ ρ a (w.putObj g ob') := by
  have hlt : g < w.heap.size := (Array.getElem?_eq_some_iff.1 hg).1
  have hI2 := h.I.setChunk (c := .obj o) (c' := .obj o') hk rfl rfl (by intro _; exact Iff.rfl) (g := g) ⟨_, _, hρ, rfl, rfl⟩ (w' := w.putObj g ob') ⟨rfl, rfl, rfl, by simp, fun k _ hk => World.putObj_heap_other hk⟩ ⟨g, cap, ob', hρ, ho, World.putObj_heap_same hlt⟩
  refine ⟨h.m, hI2.sub (fun i L _ h => h) (fun _ _ h => h) fun j d hj => ?_⟩
  dsimp only at hj
  rw [look_setA] at hj
  by_cases hji : j = k
  · subst hji
    rw [if_pos rfl, hk] at hj
    rw [upd_same]
    simpa using hj
  · rw [if_neg hji] at hj
    rw [upd_other _ _ hji]
    exact hj

/-- A chunk that is no row is left, and its block is another one. -/
theorem drop_obj (h : HoldsS F s ρ a w) {k : Nat} {o : ObjK} (hk : look k s.H = some (.obj o)) {g cap : Nat} {ob ob' : Obj} (hρ : ρ k = some ⟨some ⟨g, 0, none⟩, cap⟩) (hg : w.heap[g]? = some ob) :
    HoldsS F ⟨s.T, delA k s.H, s.nx⟩ ρ a (w.putObj g ob') := by
  have hocc : Chunk.occ ρ k g (.obj o) := ⟨_, _, hρ, rfl, rfl⟩
  have hd : ∀ {i c}, look i (delA k s.H) = some c → i ≠ k ∧ look i s.H = some c := fun e => look_del e
  have hob : ∀ x, ob ≠ .deferred x := fun x e => Chunk.holds_odd (h.I.heap.holds k _ hk) hocc x (by rw [hg, e])
  have hne : ∀ {i c x}, look i (delA k s.H) = some c → c.occ ρ i x → x ≠ g := fun e hx hxg => by
    obtain ⟨h1, h2⟩ := hd e
    exact h.I.heap.apart k _ hk rfl _ _ h2 h1 g hocc (hxg ▸ hx)
  have ht : Touch (· = g) w (w.putObj g ob') := ⟨rfl, rfl, rfl, by simp, fun k _ hk => World.putObj_heap_other hk⟩
  refine ⟨h.m, h.I.size, h.I.defers.keep fun r hr => World.putObj_heap_other ?_, h.I.tm, ⟨fun i c e => ?_, fun i c e ho j d e' hne g' hg' => ?_⟩, h.I.dom, h.I.keep, fun x hx => ?_, touch_row h.I.touch (h.I.fresh g ⟨k, _, hk, rfl, hocc⟩) ht⟩
  · rintro rfl
    rw [hg] at hr
    exact hob _ (Option.some.inj hr)
  · exact Chunk.holds_ext (h.I.heap.holds i c (hd e).2) fun x hx => World.putObj_heap_other (hne e hx)
  · exact h.I.heap.apart i c (hd e).2 ho j d (hd e').2 hne g' hg'
  · obtain ⟨i, c, e, ho, hg'⟩ := hx
    exact h.I.fresh x ⟨i, c, (hd e).2, ho, hg'⟩

/-- A new block, in whatever it is. -/
theorem holds_new {T : List (Nat × AV)} {H : List (Nat × Chunk)} {nx : Nat} (h : Holds F T H nx ρ a w) {o : ObjK} {ob : Obj} (ho : o.is ρ ob) :
    Holds F T ((nx, .obj o) :: H) (nx + 1) (envSet ρ nx ⟨some ⟨w.heap.size, 0, none⟩, 0⟩) a (w.alloc ob) := by
  have hn : ρ nx = none := by
    cases e : ρ nx with
    | none => rfl
    | some L => have := h.I.dom nx L e; (try dsimp only at this); omega
  have hle := envSet_le (L := ⟨some ⟨w.heap.size, 0, none⟩, 0⟩) hn
  have h4 : NewC (· = nx) ρ (envSet ρ nx ⟨some ⟨w.heap.size, 0, none⟩, 0⟩) (fun k => look k H) (oneMap nx (.obj o)) w (w.alloc ob) := by
    refine newC_one hn (Below.alloc (Below.refl _ _) (Nat.le_refl _) _) ⟨_, _, ob, envSet_same _ _ _, ObjK.is_mono hle ho, heap_alloc_new w _⟩ ?_
    rintro g ⟨L, b, e1, e2, e3⟩
    rw [envSet_same] at e1
    cases e1; cases e2; subst e3
    exact .inl (Nat.le_refl _)
  refine ⟨by have := h.m; omega, ?_⟩
  have hheap := h.I.heap.add h4
  refine (h.I.step h4.le (fun i hi => h4.only i (by have := h.m; omega)) (U' := fun i => i < nx + 1) (fun i L' e => ?_) hheap (fun g hg => ?_) (h.I.touch.trans (Touch.of_below (s := fun _ => False) h4.below) (fun _ h => h.elim)) (KeepM.below h4.below)).sub (fun _ _ _ h => h) (fun _ _ h => h) (fun k c' h => ?_)
  · by_cases hi : i = nx
    · subst hi; (try dsimp only); omega
    · rw [h4.only i hi] at e
      have := h.I.dom i L' e
      (try dsimp only at *); omega
  · rcases owned_add h.I.heap h4 hg with h6 | h6
    · left; have := h.I.touch.size; omega
    · exact h.I.fresh g h6
  · (try dsimp only at h)
    rw [look_cons] at h
    unfold orMap oneMap
    by_cases hk : k = nx
    · subst hk
      rw [if_pos rfl] at h ⊢
      simpa using h
    · rw [if_neg hk] at h ⊢
      simpa using h
/-- A new block for deferred calls, with its mark. -/
theorem holds_mark {T : List (Nat × AV)} {H : List (Nat × Chunk)} {nx : Nat} (h : Holds F T H nx ρ a w) :
    Holds F T H nx ρ { a with defers := mark w.heap.size :: a.defers } (w.alloc (.deferred (some []))) := by
  have hb : Below w.heap.size w (w.alloc (.deferred (some []))) := Below.alloc (Below.refl _ _) (Nat.le_refl _) _
  have h2 := h.I.step (Env.le.refl _) (fun _ _ => rfl) h.I.dom (h.I.heap.below hb) h.I.fresh (h.I.touch.trans (Touch.of_below (s := fun _ => False) hb) (fun _ h => h.elim)) (KeepM.below hb)
  obtain ⟨rs, e1, e2, e3⟩ := h.I.defers
  refine ⟨h.m, h2.size, ⟨w.heap.size :: rs, by rw [e1]; rfl, List.nodup_cons.2 ⟨fun hm => ?_, e2⟩, fun r hr => ?_⟩, h2.tm, h2.heap, h2.dom, h2.keep, h2.fresh, h2.touch⟩
  · have := (Array.getElem?_eq_some_iff.1 (e3 _ hm).2).1; omega
  · rcases List.mem_cons.1 hr with rfl | hr
    · exact ⟨h.I.touch.size, heap_alloc_new w _⟩
    · exact ⟨(e3 r hr).1, (hb.block r (Array.getElem?_eq_some_iff.1 (e3 r hr).2).1).trans (e3 r hr).2⟩

/-- The blocks of marks are shut. -/
theorem holds_left {s : St} (h : HoldsS F s ρ a w) {rs : List Nat} (hd : a.defers = rs.map mark) (hr : ∀ r ∈ rs, F.w0.heap.size ≤ r ∧ w.heap[r]? = some (Obj.deferred (some []))) {w' : World}
    (hk : ∀ g, g ∉ rs → w'.heap[g]? = w.heap[g]?) (hsz : w'.heap.size = w.heap.size) (hos : w'.os = w.os) (htp : w'.tape = w.tape) (hou : w'.output = w.output) : HoldsS F s ρ { a with defers := [] } w' :=
  ⟨h.m, h.I.size, Marks.nil _ _, h.I.tm,
    h.I.heap.ext fun g ⟨i, c, e, hg⟩ => hk g fun hm => Chunk.holds_odd (h.I.heap.holds i c e) hg _ (hr g hm).2,
    h.I.dom, h.I.keep, h.I.fresh, ⟨hos.trans h.I.touch.os, htp.trans h.I.touch.tape, hou.trans h.I.touch.output, by rw [hsz]; exact h.I.touch.size,
      fun k hk' hn => (hk k fun hm => by have := (hr k hm).1; omega).trans (h.I.touch.block k hk' hn)⟩⟩
end

section
variable {F : Frm} {Q : Exit → St → Prop} {cfg : Cfg}

/-- How a range over a function ends. -/
def RangeEnd (k : Nat) (T : List (Nat × AV)) (Q : Exit → St → Prop) (e : Exit) (s : St) : Prop :=
  (e = .normal ∨ e = .ret) ∧ match look k s.H with
    | some (.obj (.rcd _ _ _ _ _ st)) => match st with
      | .ready => Q .normal ⟨T, delA k s.H, s.nx⟩
      | .ret => Q .ret ⟨T, delA k s.H, s.nx⟩
      | .exit id => Q (.exit id) ⟨T, delA k s.H, s.nx⟩
      | .busy => False
    | _ => False

theorem lwp_range (hC : CfgOk F cfg) (hrd : F.rd = none) {g : Operand} {ps : Array Tmp} {assign body : Code} {T : List (Nat × AV)} {H : List (Nat × Chunk)} {nx : Nat} {f : FuncId} {l cap : List AV} {cs : List Cd} {fn : Func} {c : Code}
    (he : ev cfg T [] g = some (.fn f l cap, cs)) (hcs : All cs) (hf : F.P.funcs[f]? = some fn) (hcall : callable fn = true) (hb : fn.body = some c) (hres : fn.results = #[]) {nx' : Nat} (hnx : nxt nx = some nx') (hlen : Nat.ble (l ++ (.yld nx :: cap)).length fn.ntmps = true)
    (h : ∀ F' : Frm, F'.P = F.P → F'.m = nx' → CfgOk F' ⟨fn.ntmps, cfg.tys, cfg.globs⟩ → F'.rd = none → forceK (enumT nums (l ++ (.yld nx :: cap))) [] fun T' => LWP F' c (RangeEnd nx T Q) ⟨T', (nx, .obj (.rcd T cfg.nt ps assign body .ready)) :: H, nx'⟩) :
    LWP F (.rangeFunc g ps assign body) Q ⟨T, H, nx⟩ := by
  cases nxt_eq hnx
  refine ⟨fun ρ a w hs => ?_⟩
  rw [hrd]
  refine wpIn_rangeFunc fun fid _ => ?_
  obtain ⟨_, vg, hg1, hg2⟩ := ev_sound (hC.know hs.I) he hcs
  simp only [AV.den, Option.bind_eq_some_iff, Option.map_eq_some_iff] at hg1
  obtain ⟨x1, e1, x2, e2, rfl⟩ := hg1
  -- the record
  have hm := holds_mark hs
  obtain ⟨ob, hob⟩ : ∃ ob : Obj, ob = .loop { state := .ready, pending := none, fn := fid, tmps := a.tmps, params := ps, assign := assign, body := body, defers := w.heap.size } := ⟨_, rfl⟩
  have hn := holds_new (o := .rcd T cfg.nt ps assign body .ready) (ob := ob) hm ⟨fid, a.tmps, w.heap.size, by rw [hC.nt]; exact hs.I.size, hs.I.tm, hob⟩
  have hwsz : (w.alloc (.deferred (some []))).heap.size = w.heap.size + 1 := by simp
  rw [hwsz] at hn
  obtain ⟨w1, hw1⟩ : ∃ w1, w1 = (w.alloc (.deferred (some []))).alloc ob := ⟨_, rfl⟩
  rw [← hw1] at hn
  obtain ⟨ρ1, hρ1⟩ : ∃ ρ1, ρ1 = envSet ρ nx ⟨some ⟨w.heap.size + 1, 0, none⟩, 0⟩ := ⟨_, rfl⟩
  rw [← hρ1] at hn
  obtain ⟨s1, hs1⟩ : ∃ s1 : St, s1 = ⟨T, (nx, .obj (.rcd T cfg.nt ps assign body .ready)) :: H, nx + 1⟩ := ⟨_, rfl⟩
  have hn' : HoldsS F s1 ρ1 { a with defers := mark w.heap.size :: a.defers } w1 := by rw [hs1]; exact hn
  have hnone : ρ nx = none := by
    cases e : ρ nx with
    | none => rfl
    | some L => have := hs.I.dom nx L e; (try dsimp only at this); omega
  have hle : Env.le ρ ρ1 := by rw [hρ1]; exact envSet_le hnone
  have hρn : ρ1 nx = some ⟨some ⟨w.heap.size + 1, 0, none⟩, 0⟩ := by rw [hρ1]; exact envSet_same _ _ _
  have hargs : AV.denL ρ1 (l ++ (.yld nx :: cap)) = some (x1 ++ (.func (.yield (w.heap.size + 1)) #[] #[] :: x2)) := by
    refine denL_append (AV.denL_mono hle _ _ e1) ?_
    simp only [AV.denL, AV.den, hρn, Option.bind_some, Option.map_some, AV.denL_mono hle _ _ e2, listO]
  refine ⟨w.heap.size + 1, [mark w.heap.size], w1, { target := .fn (.func f) x2.toArray, args := x1.toArray ++ #[.func (.yield (w.heap.size + 1)) #[] #[]] }, w1, f, (x1 ++ (.func (.yield (w.heap.size + 1)) #[] #[] :: x2)).toArray, w1, ?_, ?_, fun _ _ => trivial, ?_, ?_⟩
  · rw [hw1, hob]; exact run_enterLoop_outer fid a.tmps ps assign body
  · simp only [resolve, hg2, Sem.run_bind, Deferred.ofValue, Sem.run_pure, Result.andThen_ok]
    simp [Act.eval]
  · simp only [invoke]
    have := callFunc_run (P := F.P) (w := w1) hf hcall ((x1.toArray ++ #[.func (.yield (w.heap.size + 1)) #[] #[]]) ++ x2.toArray)
    rw [this]
    congr 2
    simp
  · refine And.intro (fun h => by cases h) ?_
    refine callsIn_of_wp_marks (F := fen none) hf hb trivial (wpIn_n (n := 2) ?_) rfl
    obtain ⟨F', hF'⟩ : ∃ F', F' = inner F s1 ρ1 w1 fn.ntmps none := ⟨_, rfl⟩
    have hl := h F' (by rw [hF']; rfl) (by rw [hF', hs1]; rfl) (by rw [hF']; exact inner_cfg hC hn' _ _) (by rw [hF']; rfl)
    rw [force_eq] at hl
    have hrd' : F'.rd = none := by rw [hF']; rfl
    have hP' : F'.P = F.P := by rw [hF']; rfl
    have hst : HoldsS F' ⟨enumT nums (l ++ (.yld nx :: cap)), s1.H, s1.nx⟩ ρ1 { tmps := (x1 ++ (.func (.yield (w.heap.size + 1)) #[] #[] :: x2)).toArray ++ Array.replicate (fn.ntmps - (x1 ++ (.func (.yield (w.heap.size + 1)) #[] #[] :: x2)).toArray.size) undef, defers := [] } w1 := by
      rw [hF']
      have hlen' := denL_len hargs
      refine inner_start hn' ?_ fun k av e => ?_
      · have := Nat.le_of_ble_eq_true hlen
        simp only [Array.size_append, List.size_toArray, Array.size_replicate]; omega
      · obtain ⟨_, h2⟩ := enumT_look _ 300 0 k av (by rw [← List.range_eq_range', ← nums_eq]; exact e)
        obtain ⟨v, h3, h4⟩ := denL_at hargs h2
        refine ⟨v, h3, ?_⟩
        have hk : k < (x1 ++ (.func (.yield (w.heap.size + 1)) #[] #[] :: x2)).length := (List.getElem?_eq_some_iff.1 h4).1
        rw [Array.getElem?_append_left (by simpa using hk)]
        simpa using h4
    have hwp := hl.out ρ1 _ w1 (by rw [hs1] at hst; exact hst)
    rw [hrd', hP'] at hwp
    refine wpIn_mono hwp ?_
    rintro e a2 w2 ⟨s2, ρ2, ⟨hee, hend⟩, hs2⟩
    obtain ⟨rs, hds, hnd, hrs⟩ := hs2.I.defers
    have hfin : LeavesInM Fence.wide (2 - 1) F.P fn a2.tmps (rangePost (fen none) 2 F.P (w.heap.size + 1) (Post F Q) { a with defers := [mark w.heap.size] ++ a.defers }) a2.defers .returning w2 := ?_
    · rcases hee with rfl | rfl
      · exact hfin
      · exact hfin
    rw [hds]
    refine leaves_marks rs w2 hnd (fun r hr => (hrs r hr).2) fun w3 hkk hsz hos htp hou => ?_
    have hs3 := holds_left hs2 hds hrs hkk hsz hos htp hou
    refine ⟨.tuple #[], by simp [results, hres], ?_⟩
    split at hend
    case h_2 => exact hend.elim
    rename_i T2 nt2 ps2 as2 bd2 st hk2
    have hlt : nx < F'.m := by rw [hF', hs1]; show nx < nx + 1; omega
    have hρ2 : ρ2 nx = some ⟨some ⟨w.heap.size + 1, 0, none⟩, 0⟩ := by
      rw [hs3.I.keep nx hlt, hF']; exact hρn
    obtain ⟨g', cap', o3, f1, ⟨fid3, tmps3, df3, f2, f3, f4⟩, f5⟩ := hs3.I.heap.holds nx _ hk2
    rw [hρ2] at f1; cases f1
    subst f4
    have hj := inner_join hn' (by rw [hF'] at hs3; exact hs3)
    have hjd : ∀ ob', HoldsS F ⟨T, delA nx s2.H, s2.nx⟩ ρ2 { a with defers := mark w.heap.size :: a.defers } (w3.putObj (w.heap.size + 1) ob') := fun ob' => by
      have := drop_obj (ob' := ob') hj hk2 hρ2 f5
      rw [hs1] at this
      exact this
    have hbusy : st ≠ .busy := by rintro rfl; exact hend.elim
    refine ⟨_, _, run_endLoop f5 (by cases st <;> first | exact absurd rfl hbusy | (intro h; cases h)), ?_⟩
    cases st with
    | ready => exact ⟨_, ρ2, hend, hjd _⟩
    | busy => exact absurd rfl hbusy
    | ret => exact wpIn_ret ⟨_, ρ2, hend, hjd _⟩
    | exit id => exact wpIn_exit ⟨_, ρ2, hend, hjd _⟩

/-- The operations of a region from here on. -/
structure LOPS (F : Frm) (ops : Array Oper) (idx : List Nat) (Q : Exit → St → Prop) (s : St) : Prop where
  out : ∀ ρ a w, HoldsS F s ρ a w → wpOpsIn (fen F.rd) 2 F.P ops (Post F Q) idx a w
theorem lops_region {id : Nat} {ops : Array Oper} {s : St} (h : LOPS F ops (List.range' 0 ops.toList.length) Q s) : LWP F (.region id ops false) Q s := ⟨fun ρ a w hs => by
  refine wpIn_region ?_
  rw [List.range_eq_range', ← Array.length_toList]
  exact h.out ρ a w hs⟩
theorem lops_nil {ops : Array Oper} {s : St} (h : Q .normal s) : LOPS F ops [] Q s := ⟨fun ρ _ _ hs => ⟨s, ρ, h, hs⟩⟩
theorem runOps_then (hC : CfgOk F cfg) {t : Told} (ht : t.ok F.P) {ops : Array Oper} {idx : List Nat} : ∀ {rest : List Oper} {i : Nat} {T : List (Nat × AV)} {H : List (Nat × Chunk)} {nx : Nat} {css css' : List (List Cd)} {s : St},
    (∀ j o, rest[j]? = some o → ops[i + j]? = some o) → runOps cfg t ops.toList i rest T H nx css = some (s, css') → AllL css' → LOPS F ops idx Q s →
    ∀ {ρ : Env} {a : Act} {w : World}, Holds F T H nx ρ a w → wpOpsIn (fen F.rd) 2 F.P ops (Post F Q) (List.range' i rest.length ++ idx) a w
  | [], i, T, H, nx, css, css', s, _, h, hc, hq, ρ, a, w, hH => by
    cases h
    simp only [List.length_nil, List.range'_zero, List.nil_append]
    exact hq.out ρ a w hH
  | o :: rest, i, T, H, nx, css, css', s, hr, h, hc, hq, ρ, a, w, hH => by
    simp only [runOps] at h
    split at h
    · rename_i T' H' nx' cs h1
      have ho : ops[i]? = some o := by have := hr 0 o rfl; simpa using this
      rw [List.length_cons, List.range'_succ, List.cons_append, wpOpsIn_cons]
      have hr' : ∀ j o', rest[j]? = some o' → ops[i + 1 + j]? = some o' := fun j o' e => by have := hr (j + 1) o' (by simpa using e); rw [← this]; congr 1; omega
      split at h
      · exact (stepOp_sound hC ht hH ho h1 trivial (fun ρ' a' w' _ hH' => runOps_then hC ht hr' h hc hq hH')).2
      · have h2 := (runOps_acc h hc).1
        exact (stepOp_sound hC ht hH ho h1 h2 (fun ρ' a' w' _ hH' => runOps_then hC ht hr' h hc hq hH')).2
    · cases h

/-- The values that a round is given. -/
def zipT (nt : Nat) : List Tmp → List AV → List (Nat × AV) → Option (List (Nat × AV))
  | [], [], T => some T
  | p :: ps, v :: vs, T => match Nat.blt p nt with
    | true => zipT nt ps vs ((p, v) :: T)
    | false => none
  | _, _, _ => none
theorem zipT_sound {ρ : Env} {nt : Nat} : ∀ {ps : List Tmp} {l : List AV} {T T' : List (Nat × AV)} {vs : List Value} {tmps : Array Value}, zipT nt ps l T = some T' → AV.denL ρ l = some vs → tmps.size = nt →
    (∀ k av, look k T = some av → ∃ v, av.den ρ = some v ∧ tmps[k]? = some v) →
    ps.length = vs.length ∧ ((ps.zip vs).foldl (fun tmps (t, a) => tmps.setIfInBounds t a) tmps).size = nt ∧ ∀ k av, look k T' = some av → ∃ v, av.den ρ = some v ∧ ((ps.zip vs).foldl (fun tmps (t, a) => tmps.setIfInBounds t a) tmps)[k]? = some v
  | [], [], T, T', vs, tmps, h, hd, hs, ht => by
    cases h
    cases hd
    exact ⟨rfl, hs, ht⟩
  | [], _ :: _, T, T', vs, tmps, h, hd, hs, ht => by cases h
  | _ :: _, [], T, T', vs, tmps, h, hd, hs, ht => by cases h
  | p :: ps, v :: l, T, T', vs, tmps, h, hd, hs, ht => by
    simp only [zipT] at h
    split at h
    · rename_i hb
      have hlt : p < nt := Nat.le_of_ble_eq_true hb
      simp only [AV.denL] at hd
      obtain ⟨u, us, h1, h2, rfl⟩ := listO_some hd
      obtain ⟨h3, h4, h5⟩ := zipT_sound (tmps := tmps.setIfInBounds p u) h h2 (by simp [hs]) fun k av e => by
        rw [look_cons] at e
        by_cases hk : k = p
        · subst hk
          rw [if_pos rfl] at e
          cases e
          exact ⟨u, h1, by simp [hs, hlt]⟩
        · rw [if_neg hk] at e
          obtain ⟨x, x1, x2⟩ := ht k av e
          exact ⟨x, x1, by rw [Array.getElem?_setIfInBounds_ne (Ne.symm hk)]; exact x2⟩
      exact ⟨by simp [h3], by simpa using h4, fun k av e => by simpa using h5 k av e⟩
    · cases h

/-- The call of a range's yield: the record's number, the round. -/
structure YieldC where
  k : Nat
  T : List (Nat × AV)
  nt : Nat
  ps : Array Tmp
  assign : Code
  body : Code
  Tr : List (Nat × AV)
def yieldA (cfg : Cfg) (o : Oper) (s : St) : Option (YieldC × List Cd) :=
  match o.op with
  | .call ⟨.value g, args, _⟩ => match ev cfg s.T [] g with
    | some (.yld k, acc) => match evL cfg s.T args.toList acc, look k s.H with
      | some (as1, acc1), some (.obj (.rcd T nt ps assign body .ready)) => match zipT nt ps.toList as1 T with
        | some Tr => some (⟨k, T, nt, ps, assign, body, Tr⟩, acc1)
        | none => none
      | _, _ => none
    | _ => none
  | _ => none

/-- How a round ends, and what then is: K is what is asked behind the call. -/
def RoundEnd (y : YieldC) (K : Bool → List (Nat × Chunk) → Nat → Prop) (e : Exit) (s : St) : Prop :=
  match look y.k s.H with
  | some (.obj (.rcd T nt ps assign body .busy)) => match e with
    | .normal => K true (setA y.k (.obj (.rcd T nt ps assign body .ready)) s.H) s.nx
    | .ret => K false (setA y.k (.obj (.rcd T nt ps assign body .ret)) s.H) s.nx
    | .exit id => K false (setA y.k (.obj (.rcd T nt ps assign body (.exit id))) s.H) s.nx
    | _ => False
  | _ => False
/-- What is asked behind the assignments ahead of a round. -/
def RoundBegin (F : Frm) (y : YieldC) (K : Bool → List (Nat × Chunk) → Nat → Prop) (e : Exit) (s : St) : Prop :=
  e = .normal ∧ match look y.k s.H with
  | some (.obj (.rcd T nt ps assign body .ready)) => LWP F y.body (RoundEnd y K) ⟨s.T, setA y.k (.obj (.rcd T nt ps assign body .busy)) s.H, s.nx⟩
  | _ => False

theorem yield_sound (hC : CfgOk F cfg) {o : Oper} {s : St} {y : YieldC} {cs : List Cd} (hy : yieldA cfg o s = some (y, cs)) (hcs : All cs) {K : Bool → List (Nat × Chunk) → Nat → Prop}
    (hr : ∀ F' : Frm, F'.P = F.P → F'.m = s.nx → CfgOk F' ⟨y.nt, cfg.tys, cfg.globs⟩ → LWP F' y.assign (RoundBegin F' y K) ⟨y.Tr, s.H, s.nx⟩)
    {ρ : Env} {a : Act} {w : World} (hs : HoldsS F s ρ a w) {KK : Act → World → Prop} {QQ : Exit → Act → World → Prop}
    (hK : ∀ b H' nx', K b H' nx' → ∀ ρ' w', HoldsS F ⟨s.T, H', nx'⟩ ρ' a w' → KK (a.put o.dst (.bool b)) w') : o.wpIn (fen F.rd) 2 F.P a w KK QQ := by
  unfold yieldA at hy
  split at hy
  case h_2 => cases hy
  rename_i g args ts ho
  split at hy
  case h_2 => cases hy
  rename_i k acc h1
  split at hy
  case h_2 => cases hy
  rename_i as1 acc1 T nt ps assign body h2 hk
  split at hy
  case h_2 => cases hy
  rename_i Tr hz
  cases hy
  dsimp only at hr
  have hkn := hC.know hs.I
  obtain ⟨hc1, vs, hv1, hv2⟩ := evL_sound hkn h2 hcs
  obtain ⟨_, vg, hg1, hg2⟩ := ev_sound hkn h1 hc1
  obtain ⟨l, cap, ob, f1, ⟨fid, tmps, df, f2, f3, f4⟩, f5⟩ := hs.I.heap.holds k _ hk
  subst f4
  simp only [AV.den, f1, Option.bind_some, Option.map_some, Option.some.injEq] at hg1
  subst hg1
  obtain ⟨q1, q2, q3⟩ := zipT_sound hz hv1 f2 f3
  have hsz : vs.toArray.size = ps.size := by simp only [List.size_toArray]; rw [← q1]; simp
  have hrun : (execOp a.eval o).run F.P w = .ok (.round l fid ((ps.zip vs.toArray).foldl (fun tmps (t, a) => tmps.setIfInBounds t a) tmps) assign body) w := by
    simp only [execOp, ho, resolve, Sem.run_bind, arr_map _ _ hv2, hg2, Deferred.ofValue, Sem.run_pure, Result.andThen_ok, invoke]
    simpa using run_yield (P := F.P) (args := vs.toArray) f5 hsz
  have hfold : (ps.zip vs.toArray).foldl (fun tmps (t, a) => tmps.setIfInBounds t a) tmps = (ps.toList.zip vs).foldl (fun tmps (t, a) => tmps.setIfInBounds t a) tmps := by
    rw [← Array.foldl_toList]; simp
  rw [hfold] at hrun
  obtain ⟨tm2, htm2⟩ : ∃ tm2, tm2 = (ps.toList.zip vs).foldl (fun tmps (t, a) => tmps.setIfInBounds t a) tmps := ⟨_, rfl⟩
  rw [← htm2] at hrun q2 q3
  refine ⟨fun _ _ => trivial, ?_⟩
  rw [Oper.semAt_eq _ _ _ (by rw [ho]; intro c hc; cases hc), hrun, Oper.uponIn_round]
  refine And.intro (fun h => by cases h) ?_
  refine roundIn_of_wpIn trivial ?_
  show assign.wpIn (fen (some l)) (2 - 1) F.P _ { tmps := tm2, defers := [] } w
  refine wpIn_n (n := 2) ?_
  obtain ⟨F', hF'⟩ : ∃ F', F' = inner F s ρ w nt (some l) := ⟨_, rfl⟩
  have hP' : F'.P = F.P := by rw [hF']; rfl
  have hrd' : F'.rd = some l := by rw [hF']; rfl
  have hl := hr F' hP' (by rw [hF']; rfl) (by rw [hF']; exact inner_cfg hC hs _ _)
  have hst : HoldsS F' ⟨Tr, s.H, s.nx⟩ ρ { tmps := tm2, defers := [] } w := by rw [hF']; exact inner_start hs q2 q3
  have hkm : k < F'.m := by rw [hF']; exact hs.I.dom k _ f1
  have hwp := hl.out ρ _ w hst
  rw [hrd', hP'] at hwp
  refine wpIn_mono hwp ?_
  rintro e a1 w1 ⟨s1, ρ1, ⟨rfl, hbeg⟩, hs1⟩
  split at hbeg
  case h_2 => exact hbeg.elim
  rename_i T1 nt1 ps1 as1 bd1 hk1
  have hρ1 : ρ1 k = some ⟨some ⟨l, 0, none⟩, cap⟩ := by rw [hs1.I.keep k hkm, hF']; exact f1
  obtain ⟨l1, cap1, ob1, g1, ⟨fid1, tmps1, df1, g2, g3, g4⟩, g5⟩ := hs1.I.heap.holds k _ hk1
  rw [hρ1] at g1; cases g1
  subst g4
  refine ⟨_, run_beginRound g5 rfl, wpIn_n (n := 2) ?_⟩
  have hs2 := holds_obj (o' := .rcd T1 nt1 ps1 as1 bd1 .busy) (ob' := .loop { state := .busy, pending := none, fn := fid1, tmps := tmps1, params := ps1, assign := as1, body := bd1, defers := df1 }) hs1 hk1 hρ1 g5 ⟨fid1, tmps1, df1, g2, g3, rfl⟩
  have hwp2 := hbeg.out ρ1 a1 _ hs2
  rw [hrd', hP'] at hwp2
  refine wpIn_mono hwp2 ?_
  rintro e a3 w3 ⟨s3, ρ3, hend, hs3⟩
  unfold RoundEnd at hend
  split at hend
  case h_2 => exact hend.elim
  rename_i T3 nt3 ps3 as3 bd3 hk3
  have hρ3 : ρ3 k = some ⟨some ⟨l, 0, none⟩, cap⟩ := by rw [hs3.I.keep k hkm, hF']; exact f1
  obtain ⟨l3, cap3, ob3, p1, ⟨fid3, tmps3, df3, p2, p3, p4⟩, p5⟩ := hs3.I.heap.holds k _ hk3
  rw [hρ3] at p1; cases p1
  subst p4
  have fin : ∀ (st : RecSt) (jump : Option Code) (ls : LoopState), st.state = ls → st.jump = jump → ∀ b, K b (setA k (.obj (.rcd T3 nt3 ps3 as3 bd3 st)) s3.H) s3.nx →
      KK (a.put o.dst (.bool b)) (w3.putObj l (.loop { state := ls, pending := jump, fn := fid3, tmps := tmps3, params := ps3, assign := as3, body := bd3, defers := df3 })) := fun st jump ls e1 e2 b hb => by
    subst e1 e2
    refine hK b _ _ hb ρ3 _ ?_
    have h4 := holds_obj (o' := .rcd T3 nt3 ps3 as3 bd3 st) (ob' := .loop { state := st.state, pending := st.jump, fn := fid3, tmps := tmps3, params := ps3, assign := as3, body := bd3, defers := df3 }) hs3 hk3 hρ3 p5 ⟨fid3, tmps3, df3, p2, p3, rfl⟩
    rw [hF'] at h4
    exact inner_join hs h4
  cases e with
  | normal => exact ⟨_, _, run_endRound none p5, fin .ready none .ready rfl rfl true hend⟩
  | ret => exact ⟨_, _, run_endRound (some .ret) p5, fin .ret (some .ret) .done rfl rfl false hend⟩
  | exit id => exact ⟨_, _, run_endRound (some (.exit id)) p5, fin (.exit id) (some (.exit id)) .done rfl rfl false hend⟩
  | goto t => exact hend.elim
  | panic c => exact hend.elim
  | outgrown => exact hend.elim

/-- A call of yield in a region. -/
theorem lops_yield (hC : CfgOk F cfg) {ops : Array Oper} {j : Nat} {idx : List Nat} {o : Oper} (ho : ops[j]? = some o) {s : St} (hg : ∀ i want, o.guard = some (i, want) → guardOf ops.toList s.T i want = some true) {y : YieldC} {cs : List Cd} (hy : yieldA cfg o s = some (y, cs)) (hcs : All cs)
    (hr : ∀ F' : Frm, F'.P = F.P → F'.m = s.nx → CfgOk F' ⟨y.nt, cfg.tys, cfg.globs⟩ → LWP F' y.assign (RoundBegin F' y fun b H' nx' => ∃ T', putT cfg.nt o.dst (.lit (.bool b)) s.T = some T' ∧ LOPS F ops idx Q ⟨T', H', nx'⟩) ⟨y.Tr, s.H, s.nx⟩) :
    LOPS F ops (j :: idx) Q s := ⟨fun ρ a w hs => by
  have hw : Region.wanted o (yielded ops a.tmps) = true := by
    cases hgd : o.guard with
    | none => simp [Region.wanted, hgd]
    | some p => obtain ⟨i, want⟩ := p; exact guardOf_sound hs hgd (hg i want hgd)
  rw [wpOpsIn_cons]
  refine wpOpIn_on ho hw (yield_sound hC hy hcs hr hs ?_)
  rintro b H' nx' ⟨T', h1, h2⟩ ρ' w' hs'
  exact h2.out ρ' _ w' (putT_sound hC hs' h1 (by simp [AV.den]))⟩
end

section
variable {cfg : Cfg} {F : Frm} {t : Told} {ops : Array Oper} {cl : List Nat} {T0 : List (Nat × AV)} {H0 : List (Nat × Chunk)} {nx0 m : Nat} {R : List Res} {Q : Exit → St → Prop}

/-- Where a run in some order may stand. -/
def Stand3 (F : Frm) (ops : Array Oper) (T0 : List (Nat × AV)) (H0 : List (Nat × Chunk)) (nx0 m : Nat) (R : List Res) (Q : Exit → St → Prop) (listed : Array Bool) (a : Act) (w : World) : Prop :=
  ((∃ i, i < m ∧ got listed i = false) ∧ (∀ i, got listed i = true → i < m) ∧ ∃ ρ, Part F T0 H0 nx0 R (got listed) ρ a w) ∨
  (∃ j, m ≤ j ∧ j ≤ ops.size ∧ (∀ i, got listed i = true ↔ i < j) ∧ wpOpsIn (fen F.rd) 2 F.P ops (Post F Q) (List.range' j (ops.size - j)) a w)

theorem drawn_then (hC : CfgOk F cfg) (ht : t.ok F.P) (hcl : clOk cl m ops.toList 0 = true) (hg : Good cfg t ops cl T0 H0 nx0 R) (hRl : R.length = m) (hmn : m ≤ ops.size) (hH0 : ∀ i c, look i H0 = some c → i < nx0) (hm : F.m ≤ nx0)
    (hcont : ∀ ρ a w, Holds F (tE (fun _ => true) R ++ T0) (hE (fun _ => true) R ++ H0) (nxOf nx0 R) ρ a w → wpOpsIn (fen F.rd) 2 F.P ops (Post F Q) (List.range' m (ops.size - m)) a w) :
    ∀ (fuel : Nat) (listed : Array Bool) (a : Act) (w : World), listed.size = ops.size → Closed cl listed → (List.range ops.size).countP (fun i => !got listed i) ≤ fuel → Stand3 F ops T0 H0 nx0 m R Q listed a w →
      wpAnyIn (fen F.rd) 2 F.P .any ops (Post F Q) fuel listed a w := by
  have hcm : ∀ i o, ops[i]? = some o → ∃ c, nth cl i = some c ∧ (∀ e ∈ o.after, Region.binds .any e = true → e.on < i) ∧
      (∀ k, c.testBit k = true → ∃ e ∈ o.after, Region.binds .any e = true ∧ (k = e.on ∨ ∃ c', nth cl e.on = some c' ∧ c'.testBit k = true)) ∧ (m ≤ i → ∀ k, k < i → c.testBit k = true) := by
    intro i o h
    have := clOk_mem hcl i o (by rw [Array.getElem?_toList]; exact h)
    simpa using this
  -- what a ready operation waits for is listed
  have waits : ∀ {listed : Array Bool} {i : Nat} {o : Oper}, Closed cl listed → ops[i]? = some o → (∀ e ∈ o.after, Region.binds .any e = true → got listed e.on = true) → ∀ c k, nth cl i = some c → c.testBit k = true → got listed k = true := by
    intro listed i o hcd ho hdep c k h1 h2
    obtain ⟨c', a1, _, a3, _⟩ := hcm i o ho
    rw [h1] at a1; cases a1
    obtain ⟨e, b1, b2, b3⟩ := a3 k h2
    have := hdep e b1 b2
    rcases b3 with rfl | ⟨c', b4, b5⟩
    · exact this
    · exact hcd e.on c' k this b4 b5
  -- if something is not listed, something is ready
  have some_ready : ∀ {listed : Array Bool}, listed.size = ops.size → ∀ i, i < ops.size → got listed i = false → ∃ j, j ∈ Region.ready .any ops listed := by
    intro listed hs i
    induction i using Nat.strongRecOn with
    | _ i ih =>
      intro hi hn
      by_cases hall : ∀ e ∈ (ops[i]).after, Region.binds .any e = true → got listed e.on = true
      · exact ⟨i, (ready_iff hs).2 ⟨ops[i], by simp [hi], hn, hall⟩⟩
      · have : ∃ e ∈ (ops[i]).after, Region.binds .any e = true ∧ got listed e.on = false := by
          refine Classical.byContradiction fun hcon => ?_
          refine hall fun e he hb => ?_
          by_cases hge : got listed e.on = true
          · exact hge
          · exact absurd ⟨e, he, hb, by simpa using hge⟩ hcon
        obtain ⟨e, he, hb, hge⟩ := this
        obtain ⟨_, _, h2, _⟩ := hcm i ops[i] (by simp [hi])
        have hlt := h2 e he hb
        exact ih e.on hlt (by omega) hge
  have toB : ∀ {listed : Array Bool} {ρ : Env} {a : Act} {w : World}, (∀ i, i < m → got listed i = true) → Part F T0 H0 nx0 R (got listed) ρ a w → Holds F (tE (fun _ => true) R ++ T0) (hE (fun _ => true) R ++ H0) (nxOf nx0 R) ρ a w := by
    intro listed ρ a w hl hp
    have hge := hg.ge
    have hid : ∀ x ∈ R, x ∈ R := fun _ h => h
    have hall : ∀ x ∈ R, (fun _ : Nat => true) x.i = true → got listed x.i = true ∧ x ∈ R := fun x hx _ => ⟨hl x.i (by rw [← hRl]; exact (hge.2 x hx).2.2), hx⟩
    refine ⟨by omega, Interp.sub hp (fun i L _ h => ?_) (fun k v h => hg.tSub hid hid hall h) (fun k v h => hg.hSub hH0 hid hid hall h)⟩
    rcases h with h | ⟨r, h1, _, h2, h3⟩
    · show i < _; omega
    · have := (hge.2 r h1).2.1; show i < _; omega
  have all_listed_ready : ∀ {listed : Array Bool} {j : Nat}, listed.size = ops.size → Closed cl listed → m ≤ j → (∀ i, got listed i = true ↔ i < j) → ∀ i ∈ Region.ready .any ops listed, i = j := by
    intro listed j hs hcd hmj hl i hi
    obtain ⟨o, h1, h2, h3⟩ := (ready_iff hs).1 hi
    have hji : ¬ i < j := fun h => by rw [(hl i).2 h] at h2; cases h2
    by_cases hij : i = j
    · exact hij
    · obtain ⟨c, a1, _, _, a4⟩ := hcm i o h1
      have := waits hcd h1 h3 c j a1 (a4 (by omega) j (by omega))
      have := (hl j).1 this
      omega
  intro fuel
  induction fuel with
  | zero =>
    intro listed a w hs hcd hcount hst
    have hall : ∀ i, i < ops.size → got listed i = true := by
      intro i hi
      have h0 : (List.range ops.size).countP (fun i => !got listed i) = 0 := by omega
      rw [List.countP_eq_zero] at h0
      have := h0 i (List.mem_range.2 hi)
      simpa using this
    have hempty : Region.ready .any ops listed = [] := by
      rw [List.eq_nil_iff_forall_not_mem]
      intro i hi
      obtain ⟨o, h1, h2, _⟩ := (ready_iff hs).1 hi
      rw [hall i (Array.getElem?_eq_some_iff.1 h1).1] at h2; cases h2
    refine ⟨hempty, ?_⟩
    rcases hst with ⟨⟨i, h1, h2⟩, _⟩ | ⟨j, h1, h2, h3, h5⟩
    · rw [hall i (by omega)] at h2; cases h2
    · have hj : j = ops.size := by
        rcases Nat.lt_or_ge j ops.size with h | h
        · exact absurd ((h3 j).1 (hall j h)) (by omega)
        · omega
      rw [hj, Nat.sub_self] at h5
      exact h5
  | succ fuel ih =>
    intro listed a w hs hcd hcount hst
    have next : ∀ {i : Nat} {o : Oper}, ops[i]? = some o → got listed i = false → (∀ e ∈ o.after, Region.binds .any e = true → got listed e.on = true) → (listed.setIfInBounds i true).size = ops.size ∧ Closed cl (listed.setIfInBounds i true) ∧
        (List.range ops.size).countP (fun k => !got (listed.setIfInBounds i true) k) ≤ fuel := by
      intro i o ho hn hdep
      have hi : i < listed.size := by rw [hs]; exact (Array.getElem?_eq_some_iff.1 ho).1
      refine ⟨by simp [hs], fun x c k h1 h2 h3 => ?_, ?_⟩
      · rw [got_set hi] at h1 ⊢
        rcases h1 with h1 | rfl
        · exact .inl (hcd x c k h1 h2 h3)
        · exact .inl (waits hcd ho hdep c k h2 h3)
      · have := countP_lt (p := fun k => !got listed k) (q := fun k => !got (listed.setIfInBounds i true) k) (l := List.range ops.size) (x := i) (List.mem_range.2 (by omega)) (fun y hy => ?_) (by simp [hn]) (by
          have := (got_set hi i).2 (.inr rfl); simp [this])
        · omega
        · simp only [Bool.not_eq_true', Bool.not_eq_true] at hy ⊢
          cases h : got listed y with
          | false => rfl
          | true => rw [(got_set hi y).2 (.inl h)] at hy; cases hy
    have seqStep : ∀ {j : Nat}, m ≤ j → (∀ i, got listed i = true ↔ i < j) → wpOpsIn (fen F.rd) 2 F.P ops (Post F Q) (List.range' j (ops.size - j)) a w →
        ∀ {o : Oper}, ops[j]? = some o → (∀ e ∈ o.after, Region.binds .any e = true → got listed e.on = true) → wpOpIn (fen F.rd) 2 F.P ops (Post F Q) j (wpAnyIn (fen F.rd) 2 F.P .any ops (Post F Q) fuel (listed.setIfInBounds j true)) a w := by
      intro j hmj hl h5 o ho hdep
      have hj : j < ops.size := (Array.getElem?_eq_some_iff.1 ho).1
      have hn : got listed j = false := by
        cases h : got listed j with
        | false => rfl
        | true => have := (hl j).1 h; omega
      obtain ⟨b1, b2, b3⟩ := next ho hn hdep
      have e : ops.size - j = (ops.size - (j + 1)) + 1 := by omega
      rw [e, List.range'_succ, wpOpsIn_cons] at h5
      refine wpOpIn_mono (fun a' w' h => ih _ a' w' b1 b2 b3 (.inr ⟨j + 1, by omega, by omega, fun i => ?_, h⟩)) h5
      rw [got_set (by omega), hl]
      omega
    refine ⟨fun hempty => ?_, fun i hi => ?_⟩
    · rcases hst with ⟨⟨i, h1, h2⟩, _⟩ | ⟨j, h1, h2, h3, h5⟩
      · obtain ⟨k, hk⟩ := some_ready hs i (by omega) h2
        rw [hempty] at hk; cases hk
      · have hj : j = ops.size := by
          rcases Nat.lt_or_ge j ops.size with h | h
          · have hnj : got listed j = false := by
              cases hx : got listed j with
              | false => rfl
              | true => have := (h3 j).1 hx; omega
            obtain ⟨k, hk⟩ := some_ready hs j h hnj
            rw [hempty] at hk; cases hk
          · omega
        rw [hj, Nat.sub_self] at h5
        exact h5
    · obtain ⟨o, h1, h2, h3⟩ := (ready_iff hs).1 hi
      rcases hst with ⟨⟨u, hu1, hu2⟩, hst1, ρ, hp⟩ | ⟨j, hmj, hjn, hl, hH⟩
      · have him : i < m := by
          rcases Nat.lt_or_ge i m with h | h
          · exact h
          · obtain ⟨c, a1, _, _, a4⟩ := hcm i o h1
            have := waits hcd h1 h3 c u a1 (a4 h u (by omega))
            rw [this] at hu2; cases hu2
        obtain ⟨r, hr, hri⟩ := hg.get i (by omega)
        obtain ⟨b1, b2, b3⟩ := next h1 h2 h3
        have hil : i < listed.size := by rw [hs]; exact (Array.getElem?_eq_some_iff.1 h1).1
        subst hri
        refine part_step (Q := Post F Q) hC ht hg hH0 hm hp hr h2 (fun c k hcc hb => ?_) (D' := got (listed.setIfInBounds r.i true)) (fun k => got_set hil k) fun ρ' a' w' hp' => ih _ a' w' b1 b2 b3 ?_
        · rw [bitAt_eq] at hb
          exact waits hcd h1 h3 c k hcc hb
        · have hl' : ∀ k, got (listed.setIfInBounds r.i true) k = true → k < m := fun k hk => by
            rcases (got_set hil k).1 hk with h | rfl
            · exact hst1 k h
            · exact him
          by_cases hall : ∃ k, k < m ∧ got (listed.setIfInBounds r.i true) k = false
          · exact .inl ⟨hall, hl', ρ', hp'⟩
          · have hall' : ∀ k, k < m → got (listed.setIfInBounds r.i true) k = true := fun k hk => by
              cases hx : got (listed.setIfInBounds r.i true) k with
              | true => rfl
              | false => exact absurd ⟨k, hk, hx⟩ hall
            exact .inr ⟨m, Nat.le_refl _, hmn, fun k => ⟨hl' k, hall' k⟩, hcont _ _ _ (toB hall' hp')⟩
      · have := all_listed_ready hs hcd hmj hl i hi
        subst this
        exact seqStep hmj hl hH h1 h3

/-- A region that draws its order up to an operation from which on there is but one. -/
def preDrawn (cfg : Cfg) (t : Told) (cl : List Nat) (m : Nat) (ops : List Oper) (T : List (Nat × AV)) (H : List (Nat × Chunk)) (nx : Nat) : Option (St × List (List Cd)) :=
  match clOk cl m ops 0 with
  | true => forceK (delKeys ops m T) [] fun T0 => match stab cfg t ops cl T0 H m 0 ops nx [] [] with
    | some (R, nx1, css) => forceK (tE (fun _ => true) R ++ T0) [] fun T1 => forceK (hE (fun _ => true) R ++ H) [] fun H1 => some (⟨T1, H1, nx1⟩, css)
    | none => none
  | false => none
theorem stab_len {cfg : Cfg} {t : Told} {ops : List Oper} {cl : List Nat} {T0 : List (Nat × AV)} {H0 : List (Nat × Chunk)} : ∀ {m j : Nat} {rest : List Oper} {nx : Nat} {R : List Res} {css : List (List Cd)} {x : List Res × Nat × List (List Cd)}, stab cfg t ops cl T0 H0 m j rest nx R css = some x → m ≤ rest.length
  | 0, j, rest, nx, R, css, x, h => Nat.zero_le _
  | m + 1, j, [], nx, R, css, x, h => by cases h
  | m + 1, j, o :: rest, nx, R, css, x, h => by
    simp only [stab, force_eq] at h
    split at h
    · split at h
      · split at h
        · split at h
          · have := stab_len h; simp only [List.length_cons]; omega
          · have := stab_len h; simp only [List.length_cons]; omega
        · cases h
      · cases h
    · cases h
theorem preDrawn_le {cfg : Cfg} {t : Told} {cl : List Nat} {m : Nat} {ops : Array Oper} {T : List (Nat × AV)} {H : List (Nat × Chunk)} {nx : Nat} {x : St × List (List Cd)} (h : preDrawn cfg t cl m ops.toList T H nx = some x) : m ≤ ops.size := by
  unfold preDrawn at h
  split at h
  · rw [force_eq] at h
    split at h
    · rename_i hs
      have := stab_len hs
      simpa using this
    · cases h
  · cases h
theorem lwp_drawn_pre (hC : CfgOk F cfg) (hmx : F.P.follows .mixedOrders = true) (t : Told) (ht : t.ok F.P) (cl : List Nat) (m : Nat) {id : Nat} {ops : Array Oper} {T : List (Nat × AV)} {H : List (Nat × Chunk)} {nx : Nat} {s' : St} {css : List (List Cd)}
    (h : preDrawn cfg t cl m ops.toList T H nx = some (s', css)) (hc : AllL css) (hq : LOPS F ops (List.range' m (ops.size - m)) Q s') : LWP F (.region id ops true) Q ⟨T, H, nx⟩ := ⟨fun ρ a w hs => by
  unfold preDrawn at h
  split at h
  case h_2 => cases h
  rename_i hcl
  rw [force_eq] at h
  split at h
  case h_2 => cases h
  rename_i R nx1 css1 hstab
  rw [force_eq, force_eq] at h
  cases h
  have hs1 : Holds F T H nx ρ a { w with drawn := w.drawn + 1 } := Holds.drew hs
  obtain ⟨_, hg, hRl, hnx⟩ := stab_good (nx0 := nx) hstab (fun k => by simp) trivial rfl rfl hc
  subst hnx
  have hRl : R.length = m := by omega
  have hmn : m ≤ ops.size := by
    rcases Nat.lt_or_ge ops.size m with hlt | hge
    · have h0 : 0 < R.length := by omega
      obtain ⟨r, hr, hri⟩ := hg.get (m - 1) (by omega)
      obtain ⟨_, _, _, _, o, _, _, e, _⟩ := hg.key r hr
      have := (Array.getElem?_eq_some_iff.1 e).1
      omega
    · exact hge
  have hH0 : ∀ i c, look i H = some c → i < nx := by
    intro i c e
    have hh := hs1.I.heap.holds i c e
    have : ∃ L, ρ i = some L := by
      cases c with
      | blk t l => obtain ⟨g, cap, vs, e, _⟩ := hh; exact ⟨_, e⟩
      | rb t l => obtain ⟨g, cap, vs, e, _⟩ := hh; exact ⟨_, e⟩
      | row t n sz c => obtain ⟨L, vs, e, _⟩ := hh; exact ⟨_, e⟩
      | ro n sz c => obtain ⟨L, vs, e, _⟩ := hh; exact ⟨_, e⟩
      | obj k => obtain ⟨b, cap, vs, e, _⟩ := hh; exact ⟨_, e⟩
      | fam => obtain ⟨L, e, _⟩ := hh; exact ⟨_, e⟩
    obtain ⟨L, hL⟩ := this
    exact hs1.I.dom i L hL
  refine wpIn_region_any hmx ?_
  have hgot0 : ∀ k, got (Array.replicate ops.size false) k = false := by
    intro k; unfold got; rw [Array.getD_eq_getD_getElem?, Array.getElem?_replicate]; split <;> rfl
  refine drawn_then hC ht hcl hg hRl hmn hH0 hs1.m (fun ρ a w hh => hq.out ρ a w hh) ops.size _ a _ (by simp) (fun i c k hi => (by rw [hgot0] at hi; cases hi)) (by have := List.countP_le_length (p := fun i => !got (Array.replicate ops.size false) i) (l := List.range ops.size); simpa using this) ?_
  have hT0 : Interp F (fun i => i < nx) (fun k => look k (delKeys ops.toList m T)) (fun k => look k H) ρ a { w with drawn := w.drawn + 1 } := hs1.I.sub (fun _ _ _ h => h) (fun k v h => delKeys_look h) (fun _ _ h => h)
  have emptyT : ∀ {R : List Res} {D : Nat → Bool}, (∀ k, D k = false) → tE D R = [] ∧ hE D R = [] := by
    intro R D hD
    induction R with
    | nil => exact ⟨rfl, rfl⟩
    | cons r R ih => simp only [tE, hE, hD]; exact ih
  by_cases hm0 : m = 0
  · subst hm0
    have : R = [] := List.eq_nil_of_length_eq_zero hRl
    subst this
    refine .inr ⟨0, Nat.le_refl _, Nat.zero_le _, fun i => ?_, hq.out ρ a _ ⟨hs1.m, ?_⟩⟩
    · rw [hgot0]; simp
    · simpa [tE, hE, nxOf] using hT0
  · refine .inl ⟨⟨0, by omega, hgot0 0⟩, fun i hi => (by rw [hgot0] at hi; cases hi), ρ, ?_⟩
    unfold Part
    obtain ⟨e1, e2⟩ := emptyT (R := R) hgot0
    rw [e1, e2]
    exact hT0.sub (fun i L _ h => .inl h) (fun _ _ h => by simpa using h) (fun _ _ h => by simpa using h)⟩

end
end Go.Sym

namespace Go.Sym
open Go.RowKit

structure RStat where
  P : Program
  tys : List (Nat × TyI)
  own : FuncId → Bool
  known : FuncId → List AV → List (Nat × Nat) → List (Nat × Chunk) → Option Inst
  cust : Custom

def memN (k : Nat) : List Nat → Bool
  | [] => false
  | j :: l => match Nat.beq k j with | true => true | false => memN k l
mutual
def idsA : AV → List Nat → List Nat
  | .ptr i _ _ _, l => i :: l
  | .sl i _, l => i :: l
  | .agg m, l => idsL m l
  | .tup m, l => idsL m l
  | .fn _ a b, l => idsL a (idsL b l)
  | .yld i, l => i :: l
  | .mp i, l => i :: l
  | .tb i _, l => i :: l
  | _, l => l
def idsL : List AV → List Nat → List Nat
  | [], l => l
  | a :: m, l => idsA a (idsL m l)
end
def idsC : Cont → List Nat → List Nat
  | .exp l, r => idsL l r
  | .app c l, r => idsC c (idsL l r)
  | .tbl j _ _ (some (_, a)), r => idsA a (j :: r)
  | .tbl j _ _ none, r => j :: r
  | .jbs j _ _ _ _, r => j :: r
  | _, r => r
def idsEs : List (Value × AV) → List Nat → List Nat
  | [], r => r
  | (_, v) :: l, r => idsA v (idsEs l r)
def idsT : List (Nat × AV) → List Nat → List Nat
  | [], r => r
  | (_, v) :: l, r => idsA v (idsT l r)
def idsO : ObjK → List Nat → List Nat
  | .map es, r => idsEs es r
  | .rcd T _ _ _ _ _, r => idsT T r
  | _, r => r
def idsK : Chunk → List Nat → List Nat
  | .blk _ l, r => idsL l r
  | .rb _ l, r => idsL l r
  | .row _ _ _ c, r => idsC c r
  | .ro _ _ c, r => idsC c r
  | .obj k, r => idsO k r
  | .fam .., r => r
def reach (H : List (Nat × Chunk)) : Nat → List Nat → List Nat → List Nat
  | 0, _, seen => seen
  | _ + 1, [], seen => seen
  | n + 1, i :: todo, seen => match memN i seen with
    | true => reach H n todo seen
    | false => match look i H with
      | some c => reach H n (idsK c todo) (i :: seen)
      | none => reach H n todo seen

def enumI : List Nat → Nat → List (Nat × Nat)
  | [], _ => []
  | a :: l, k => (a, k) :: enumI l (k + 1)
def flipS : List (Nat × Nat) → Ren
  | [] => []
  | (a, b) :: l => (b, some a) :: flipS l
def idRen : List Nat → Ren
  | [] => []
  | a :: l => (a, some a) :: idRen l
def asRo : Chunk → Chunk
  | .row _ n sz c => .ro n sz c
  | .blk t l => .rb t l
  | c => c
def hinOf (own : Bool) (H : List (Nat × Chunk)) (τ : List (Nat × Nat)) : List (Nat × Nat) → Option (List (Nat × Chunk))
  | [] => some []
  | (a, b) :: l => match look a H with
    | some c => match renK τ (match own with | true => c | false => asRo c) with
      | some d => match hinOf own H τ l with
        | some m => some ((b, d) :: m)
        | none => none
      | none => none
    | none => none
def renG (τ : List (Nat × Nat)) (m : Nat) : List (Nat × Nat) → Option (List (Nat × Nat))
  | [] => some []
  | (g, i) :: l => match look i τ with
    | some j => match Nat.blt j m, renG τ m l with
      | true, some r => some ((g, j) :: r)
      | _, _ => none
    | none => none
theorem renG_lt {τ : List (Nat × Nat)} {m : Nat} : ∀ {l r : List (Nat × Nat)}, renG τ m l = some r → ∀ g i, (g, i) ∈ r → i < m
  | [], r, h, g, i, hm => by cases h; cases hm
  | (g', i') :: l, r, h, g, i, hm => by
    simp only [renG] at h
    split at h
    · split at h
      · rename_i j _ r' hb hr
        cases h
        rcases List.mem_cons.1 hm with e | hm
        · cases e; exact Nat.le_of_ble_eq_true hb
        · exact renG_lt hr g i hm
      · cases h
    · cases h
def ownKeys : List (Nat × Chunk) → List Nat → List Nat
  | [], r => r
  | (i, c) :: l, r => match c.own with | true => i :: ownKeys l r | false => ownKeys l r
def ownOf (ids : List Nat) : List (Nat × Chunk) → List (Nat × Chunk)
  | [] => []
  | (i, c) :: l => match memN i ids && c.own with | true => (i, c) :: ownOf ids l | false => ownOf ids l
def isEnd : Exit → Bool
  | .normal | .ret => true
  | _ => false
theorem isEnd_eq {e : Exit} (h : isEnd e = true) : e = .normal ∨ e = .ret := by
  cases e <;> first | exact .inl rfl | exact .inr rfl | cases h

/-- Whether a contract is given rows or variables of the caller's own. -/
def ownI : List (Nat × Chunk) → Bool
  | [] => false
  | (_, .row ..) :: _ => true
  | (_, .blk ..) :: _ => true
  | _ :: l => ownI l
/-- Calls that have been run before. -/
def memo : List Inst → FuncId → List AV → List (Nat × Nat) → List (Nat × Chunk) → Option Inst
  | [], _, _, _, _ => none
  | I :: l, f, args, gl, H => match Nat.beq I.f f with
    | false => memo l f args gl H
    | true => match reach H 10000 (idsL args (gl.map (·.2))) [] with
      | seen => match enumI seen 0 with
        | τ => match hinOf (ownI I.hin) H τ τ, renL τ args with
          | some hin, some as1 => match cmpL (idRen (seen.map fun i => (look i τ).getD 0)) I.args as1 [], cmpH (idRen (seen.map fun i => (look i τ).getD 0)) hin I.hin [] with
            | some cs, some cs' => match allB cs && allB cs' && Nat.beq I.hin.length hin.length with
              | true => some { I with σ := flipS τ }
              | false => memo l f args gl H
            | _, _ => memo l f args gl H
          | _, _ => memo l f args gl H
theorem memo_ok {P : Program} : ∀ {l : List Inst} {f : FuncId} {args : List AV} {gl : List (Nat × Nat)} {H : List (Nat × Chunk)} {I : Inst}, (∀ J ∈ l, J.ok P) → memo l f args gl H = some I → I.ok P
  | [], f, args, gl, H, I, hl, h => by cases h
  | J :: l, f, args, gl, H, I, hl, h => by
    have hl' : ∀ K ∈ l, K.ok P := fun K hK => hl K (List.mem_cons_of_mem _ hK)
    simp only [memo] at h
    split at h
    · exact memo_ok hl' h
    · split at h
      · split at h
        · split at h
          · cases h; exact hl J List.mem_cons_self
          · exact memo_ok hl' h
        · exact memo_ok hl' h
      · exact memo_ok hl' h

/-- A call: what it is given, and what the run of its body gives. -/
def callI (S : RStat) (ex : Nat → Bool → Cfg → Code → St → Option (Exit × St)) (f : FuncId) (args : List AV) (gl : List (Nat × Nat)) (H : List (Nat × Chunk)) : Option Inst :=
  match S.known f args gl H with
  | some I => some I
  | none => match S.P.funcs[f]? with
    | some fn => match fn.body, callable fn with
      | some c, true => match reach H 10000 (idsL args (gl.map (·.2))) [] with
        | seen => match enumI seen 0, seen.length with
          | τ, m => match hinOf (S.own f) H τ τ, renL τ args, renG τ m gl with
            | some hin, some as1, some gl' => match allKeys m hin && Nat.ble as1.length fn.ntmps with
              | true => match ex m true ⟨fn.ntmps, S.tys, gl'⟩ c ⟨enumT nums as1, hin, m⟩ with
                | some (e, s') => match isEnd e, resL ⟨fn.ntmps, S.tys, gl'⟩ s'.T s'.H fn.results.toList [] with
                  | true, some (l, _) => match reach s'.H 10000 (idsL l (ownKeys hin [])) [] with
                    | keep => match ownOf keep s'.H with
                      | hout => match endS ⟨fn.ntmps, S.tys, gl'⟩ m (idRen keep) fn.results.toList hout (tupOf l) s' with
                        | some cs => match allB cs with
                          | true => some ⟨f, gl', hin, as1, hout, tupOf l, flipS τ⟩
                          | false => none
                        | none => none
                  | _, _ => none
                | none => none
              | false => none
            | _, _, _ => none
      | _, _ => none
    | none => none

/-- What an operation needs to be told. -/
def tellOp (call : FuncId → List AV → List (Nat × Nat) → List (Nat × Chunk) → Option Inst) (cfg : Cfg) (ops : List Oper) (i : Nat) (o : Oper) (s : St) (g : Option Bool) : Option (List (Nat × HintX) × List (Nat × Inst)) :=
  match g with
  | some false => some ([(i, { g := some false })], [])
  | g => match kindOf o.op with
    | 3 => match o.op with
      | .call ⟨.value x, args, _⟩ => match ev cfg s.T [] x with
        | some (.fn f l m, _) => match evL cfg s.T args.toList [] with
          | some (as1, _) => match call f (l ++ (as1 ++ m)) cfg.globs s.H with
            | some I => some (match g with | some b => [(i, { g := some b })] | none => [], [(i, I)])
            | none => none
          | none => none
        | _ => none
      | _ => none
    | _ => some (match g with | some b => [(i, { g := some b })] | none => [], [])

def isYield (T : List (Nat × AV)) (o : Op) : Bool := match o with
  | .call ⟨.value (.tmp x), _, _⟩ => match look x T with
    | some (.yld _) => true
    | _ => false
  | _ => false
/-- A run of operations, up to the first call of a yield. -/
def runC (cu : Custom) (call : FuncId → List AV → List (Nat × Nat) → List (Nat × Chunk) → Option Inst) (cfg : Cfg) (ops : List Oper) : Nat → List Oper → St → List (Nat × HintX) → List (Nat × Custom) → List (Nat × Inst) → Option (St × List (Nat × HintX) × List (Nat × Custom) × List (Nat × Inst) × List Oper)
  | _, [], s, hs, cus, cs => some (s, hs, cus, cs, [])
  | i, o :: rest, s, hs, cus, cs => match (match o.guard with | none => some none | some (j, want) => match guardOf ops s.T j want with | some b => some (some b) | none => none) with
    | none => none
    | some g => match isYield s.T o.op && (match g with | some b => b | none => true) with
     | true => some (s, hs, cus, cs, o :: rest)
     | false => match tellOp call cfg ops i o s g with
      | some (h1, c1) => match stepOp cfg ⟨h1, [], c1⟩ ops i o s.T s.H s.nx [] with
        | some (s', cd) => match allB cd with
          | true => runC cu call cfg ops (i + 1) rest s' (h1 ++ hs) cus (c1 ++ cs)
          | false => none
        | none => match stepOp cfg ⟨h1, [(i, cu)], c1⟩ ops i o s.T s.H s.nx [] with
          | some (s', cd) => match allB cd with
            | true => runC cu call cfg ops (i + 1) rest s' (h1 ++ hs) ((i, cu) :: cus) (c1 ++ cs)
            | false => none
          | none => none
      | none => none

def allBB : List (List Cd) → Bool
  | [] => true
  | l :: m => match allB l with | true => allBB m | false => false
theorem allBB_all : ∀ {l : List (List Cd)}, allBB l = true → AllL l
  | [], _ => trivial
  | c :: l, h => by
    simp only [allBB] at h
    split at h
    · rename_i hb; exact ⟨allB_all hb, allBB_all h⟩
    · cases h

/-- What each operation of a region waits for. -/
def clOf : List Oper → Nat → List Nat → List Nat
  | [], _, cl => cl
  | o :: l, j, cl => match depM cl j o.after.toList 0 with
    | some s => clOf l (j + 1) (cl ++ [s])
    | none => cl
def lastFree : List Nat → Nat → Nat → Nat
  | [], _, m => m
  | c :: l, j, m => match Nat.beq (c + 1) (Nat.shiftLeft 1 j) with
    | true => lastFree l (j + 1) m
    | false => lastFree l (j + 1) (j + 1)

/-- The first operation that writes. -/
def firstMut (cs : List (Nat × Inst)) : List Oper → Nat → Nat
  | [], j => j
  | o :: l, j => match kindOf o.op with
    | 2 => j
    | 3 => match look j cs with
      | some I => match ownIds I.σ I.hin with
        | [] => firstMut cs l (j + 1)
        | _ => j
      | none => firstMut cs l (j + 1)
    | _ => firstMut cs l (j + 1)
/-- Whether an operation reads a slot. -/
def readsAny (d : Tmp) : List Operand → Bool
  | [] => false
  | .tmp k :: l => match Nat.beq k d with | true => true | false => readsAny d l
  | _ :: l => readsAny d l
def readsOps (d : Tmp) : List Oper → Bool
  | [] => false
  | o :: l => match readsAny d o.op.operands.toList with | true => true | false => readsOps d l
/-- The first operation that writes a slot which one ahead of it reads. -/
def firstWar (seen : List Oper) : List Oper → Nat → Nat
  | [], j => j
  | o :: l, j => match o.dst with
    | some d => match readsOps d seen with
      | true => j
      | false => firstWar (o :: seen) l (j + 1)
    | none => firstWar (o :: seen) l (j + 1)
/-- For what the later ones do not wait. -/
def flFrom : List Nat → Nat → Nat → Nat
  | [], _, _ => 0
  | c :: l, j, m => match Nat.blt j m with
    | true => flFrom l (j + 1) m
    | false => Nat.lor (Nat.xor (Nat.shiftLeft 1 j - 1) (Nat.land c (Nat.shiftLeft 1 j - 1))) (flFrom l (j + 1) m)
def drawnRun (cfg : Cfg) (t : Told) (cl : List Nat) (m fl : Nat) (ops : List Oper) (T : List (Nat × AV)) (H : List (Nat × Chunk)) (nx : Nat) : Option (St × List (List Cd)) :=
  match Nat.beq fl 0 with
  | true => runDrawn cfg t cl (lastFree cl 0 0) ops T H nx
  | false => runDrawn2 cfg t cl m fl ops T H nx

def dedT : List (Nat × AV) → Nat → List (Nat × AV)
  | [], _ => []
  | (k, v) :: l, mask => match bitAt mask k with
    | true => dedT l mask
    | false => (k, v) :: dedT l (Nat.lor mask (Nat.shiftLeft 1 k))
def keysBelow (m : Nat) : List (Nat × Chunk) → List Nat → List Nat
  | [], r => r
  | (i, _) :: l, r => match Nat.blt i m with | true => i :: keysBelow m l r | false => keysBelow m l r
def keepH (ids : List Nat) : List (Nat × Chunk) → List (Nat × Chunk)
  | [] => []
  | (i, c) :: l => match memN i ids with | true => (i, c) :: keepH ids l | false => keepH ids l
/-- What nobody looks at any more is left. -/
def gc (m : Nat) (s : St) : St := match dedT s.T 0 with
  | T => ⟨T, keepH (reach s.H 10000 (idsT T (keysBelow m s.H [])) []) s.H, s.nx⟩

def loopC (m : Nat) (run : St → Option (Exit × St)) : Nat → St → Option (Exit × St)
  | 0, _ => none
  | k + 1, s => match run s with
    | some (.normal, s') => loopC m run k (gc m s')
    | some (e, s') => some (e, s')
    | none => none

/-- A round of a range over a function, as1 its yield is called. -/
def yieldC (ex : Nat → Bool → Cfg → Code → St → Option (Exit × St)) (cfg : Cfg) (o : Oper) (s : St) : Option St :=
  match yieldA cfg o s with
  | some (y, cs) => match allB cs with
    | true => match ex s.nx false ⟨y.nt, cfg.tys, cfg.globs⟩ y.assign ⟨y.Tr, s.H, s.nx⟩ with
      | some (.normal, s1) => match look y.k s1.H with
        | some (.obj (.rcd T nt ps as1 bd .ready)) => match ex s.nx false ⟨y.nt, cfg.tys, cfg.globs⟩ y.body ⟨s1.T, setA y.k (.obj (.rcd T nt ps as1 bd .busy)) s1.H, s1.nx⟩ with
          | some (e, s2) => match look y.k s2.H with
            | some (.obj (.rcd T nt ps as1 bd .busy)) => match (match e with | .normal => some (true, RecSt.ready) | .ret => some (false, .ret) | .exit id => some (false, .exit id) | _ => none) with
              | some (b, st) => match putT cfg.nt o.dst (.lit (.bool b)) s.T with
                | some T' => forceK (setA y.k (.obj (.rcd T nt ps as1 bd st)) s2.H) [] fun H' => some ⟨T', H', s2.nx⟩
                | none => none
              | none => none
            | _ => none
          | none => none
        | _ => none
      | _ => none
    | false => none
  | none => none

/-- The rest of a region, with one call of a yield at most. -/
def contC (ex : Nat → Bool → Cfg → Code → St → Option (Exit × St)) (cu : Custom) (call : FuncId → List AV → List (Nat × Nat) → List (Nat × Chunk) → Option Inst) (cfg : Cfg) (ops : Array Oper) (i : Nat) (rest : List Oper) (s : St) : Option St :=
  match runC cu call cfg ops.toList i rest s [] [] [] with
  | some (s', _, _, _, r) => match r with
    | [] => some s'
    | o :: r' => match yieldC ex cfg o s' with
      | some s2 => match runC cu call cfg ops.toList (ops.size - r'.length) r' s2 [] [] [] with
        | some (s3, _, _, _, r2) => match r2 with
          | [] => some s3
          | _ :: _ => none
        | none => none
      | none => none
  | none => none

def exec (S : RStat) : Nat → Nat → Bool → Cfg → Code → St → Option (Exit × St)
  | 0, _, _, _, _, _ => none
  | n + 1, m, top, cfg, c, s => match c with
    | .skip => some (.normal, s)
    | .label _ => some (.normal, s)
    | .ret => some (.ret, s)
    | .exit id => some (.exit id, s)
    | .seq x y => match exec S n m top cfg x s with
      | some (.normal, s') => exec S n m top cfg y s'
      | some (e, s') => some (e, s')
      | none => none
    | .scope x => match exec S n m top cfg x s with
      | some (.goto _, _) => none
      | r => r
    | .block id x => match exec S n m top cfg x s with
      | some (.exit id', s') => match Nat.beq id' id with | true => some (.normal, s') | false => some (.exit id', s')
      | some (e, s') => some (e, s')
      | none => none
    | .cond b x y => match ev cfg s.T [] b with
      | some (.lit (.bool true), []) => exec S n m top cfg x s
      | some (.lit (.bool false), []) => exec S n m top cfg y s
      | _ => none
    | .loop x => loopC m (exec S n m top cfg x) 4000 s
    | .region _ ops drawn => match drawn with
      | false => match contC (exec S n) S.cust (callI S (exec S n)) cfg ops 0 ops.toList s with
        | some s' => some (.normal, s')
        | none => none
      | true => match runC S.cust (callI S (exec S n)) cfg ops.toList 0 ops.toList s [] [] [] with
        | some (_, hs, cus, cs, r) => match r with
          | [] => match clOf ops.toList 0 [] with
            | cl => match Nat.min (firstMut cs ops.toList 0) (firstWar [] ops.toList 0) with
            | m => match drawnRun cfg ⟨hs, cus, cs⟩ cl m (flFrom cl 0 m) ops.toList s.T s.H s.nx with
              | some (s'', css) => match allBB css with
                | true => some (.normal, s'')
                | false => none
              | none => none
          | _ :: _ => match clOf ops.toList 0 [] with
            | cl => match lastFree cl 0 0 with
            | m => match preDrawn cfg ⟨hs, cus, cs⟩ cl m ops.toList s.T s.H s.nx with
              | some (s1, css) => match allBB css with
                | true => match contC (exec S n) S.cust (callI S (exec S n)) cfg ops m (ops.toList.drop m) s1 with
                  | some s' => some (.normal, s')
                  | none => none
                | false => none
              | none => none
        | none => none
    | .rangeFunc g ps assign body => match top, ev cfg s.T [] g with
      | true, some (.fn f l cap, []) => match S.P.funcs[f]? with
        | some fn => match fn.body, nxt s.nx, callable fn && Nat.beq fn.results.toList.length 0 && Nat.ble (l ++ (.yld s.nx :: cap)).length fn.ntmps with
          | some c, some nx', true => match exec S n nx' true ⟨fn.ntmps, cfg.tys, cfg.globs⟩ c ⟨enumT nums (l ++ (.yld s.nx :: cap)), (s.nx, .obj (.rcd s.T cfg.nt ps assign body .ready)) :: s.H, nx'⟩ with
            | some (e, s2) => match isEnd e, look s.nx s2.H with
              | true, some (.obj (.rcd _ _ _ _ _ st)) => match st with
                | .ready => some (.normal, ⟨s.T, delA s.nx s2.H, s2.nx⟩)
                | .ret => some (.ret, ⟨s.T, delA s.nx s2.H, s2.nx⟩)
                | .exit id => some (.exit id, ⟨s.T, delA s.nx s2.H, s2.nx⟩)
                | .busy => none
              | _, _ => none
            | none => none
          | _, _, _ => none
        | none => none
      | _, _ => none
    | _ => none

theorem dedT_look : ∀ {l : List (Nat × AV)} {mask k : Nat} {v : AV}, look k (dedT l mask) = some v → look k l = some v ∧ mask.testBit k = false
  | [], mask, k, v, h => by simp [dedT, look] at h
  | (j, u) :: l, mask, k, v, h => by
    simp only [dedT] at h
    rw [look_cons]
    split at h
    · rename_i hb
      rw [bitAt_eq] at hb
      obtain ⟨h1, h2⟩ := dedT_look h
      have : k ≠ j := by rintro rfl; rw [hb] at h2; cases h2
      rw [if_neg this]
      exact ⟨h1, h2⟩
    · rename_i hb
      rw [bitAt_eq] at hb
      rw [look_cons] at h
      split at h
      · rename_i e
        subst e
        cases h
        exact ⟨by simp, hb⟩
      · rename_i e
        obtain ⟨h1, h2⟩ := dedT_look h
        rw [if_neg e]
        refine ⟨h1, ?_⟩
        have h3 : (mask ||| (1 <<< j)).testBit k = false := h2
        rw [Nat.testBit_or, Bool.or_eq_false_iff] at h3
        exact h3.1
theorem keepH_look {ids : List Nat} : ∀ {l : List (Nat × Chunk)} {k : Nat} {c : Chunk}, look k (keepH ids l) = some c → look k l = some c
  | [], k, c, h => by simp [keepH, look] at h
  | (j, d) :: l, k, c, h => by
    have no : ∀ {l : List (Nat × Chunk)}, memN j ids = false → look j (keepH ids l) = none := by
      intro l hj
      induction l with
      | nil => rfl
      | cons x l ih =>
        obtain ⟨i, e⟩ := x
        simp only [keepH]
        split
        · rename_i hi
          rw [look_cons, if_neg (by rintro rfl; rw [hj] at hi; cases hi)]
          exact ih
        · exact ih
    simp only [keepH] at h
    rw [look_cons]
    split at h
    · rw [look_cons] at h
      split at h
      · rename_i e; rw [if_pos e]; exact h
      · rename_i e; rw [if_neg e]; exact keepH_look h
    · rename_i hj
      have : k ≠ j := by rintro rfl; rw [no hj] at h; cases h
      rw [if_neg this]
      exact keepH_look h
theorem gc_sub (F : Frm) (m : Nat) (s : St) : Sub F s (gc m s) := fun ρ a w h => ⟨ρ, ⟨h.m, h.I.sub (fun _ _ _ h => h) (fun _ _ e => (dedT_look e).1) (fun _ _ e => keepH_look e)⟩⟩

def CallOk (P : Program) (call : FuncId → List AV → List (Nat × Nat) → List (Nat × Chunk) → Option Inst) : Prop := ∀ f args gl H I, call f args gl H = some I → I.ok P

theorem tellOp_ok {P : Program} {call : FuncId → List AV → List (Nat × Nat) → List (Nat × Chunk) → Option Inst} (hcall : CallOk P call) {cfg : Cfg} {ops : List Oper} {i : Nat} {o : Oper} {s : St} {g : Option Bool} {hs : List (Nat × HintX)} {cs : List (Nat × Inst)}
    (h : tellOp call cfg ops i o s g = some (hs, cs)) : ∀ p ∈ cs, p.2.ok P := by
  unfold tellOp at h
  split at h
  · cases h; exact fun p hp => by cases hp
  · split at h
    · split at h
      · split at h
        · split at h
          · split at h
            · rename_i I hI
              cases h
              intro p hp
              rcases List.mem_cons.1 hp with rfl | hp
              · exact hcall _ _ _ _ _ hI
              · cases hp
            · cases h
          · cases h
        · cases h
      · cases h
    · cases h; exact fun p hp => by cases hp

theorem runC_told {P : Program} {cu : Custom} (hcu : cu.ok P) {call : FuncId → List AV → List (Nat × Nat) → List (Nat × Chunk) → Option Inst} (hcall : CallOk P call) {cfg : Cfg} {ops : List Oper} : ∀ {rest : List Oper} {i : Nat} {s s' : St} {hs hs' : List (Nat × HintX)} {cus cus' : List (Nat × Custom)} {cs cs' : List (Nat × Inst)} {r : List Oper},
    runC cu call cfg ops i rest s hs cus cs = some (s', hs', cus', cs', r) → (∀ p ∈ cus, p.2.ok P) → (∀ p ∈ cs, p.2.ok P) → (∀ p ∈ cus', p.2.ok P) ∧ ∀ p ∈ cs', p.2.ok P
  | [], i, s, s', hs, hs', cus, cus', cs, cs', r, h, hu, hc => by cases h; exact ⟨hu, hc⟩
  | o :: rest, i, s, s', hs, hs', cus, cus', cs, cs', r, h, hu, hc => by
    have more : ∀ {g : Option Bool} {h1 : List (Nat × HintX)} {c1 : List (Nat × Inst)}, tellOp call cfg ops i o s g = some (h1, c1) → ∀ p ∈ c1 ++ cs, p.2.ok P := by
      intro g h1 c1 ht p hp
      rcases List.mem_append.1 hp with hp | hp
      · exact tellOp_ok hcall ht p hp
      · exact hc p hp
    simp only [runC] at h
    split at h
    · cases h
    split at h
    · cases h; exact ⟨hu, hc⟩
    · split at h
      · rename_i h1 c1 ht
        split at h
        · split at h
          · exact runC_told hcu hcall h hu (more ht)
          · cases h
        · split at h
          · split at h
            · refine runC_told hcu hcall h (fun p hp => ?_) (more ht)
              rcases List.mem_cons.1 hp with rfl | hp
              · exact hcu
              · exact hu p hp
            · cases h
          · cases h
      · cases h

theorem runC_then {F : Frm} {cu : Custom} (hcu : cu.ok F.P) {call : FuncId → List AV → List (Nat × Nat) → List (Nat × Chunk) → Option Inst} (hcall : CallOk F.P call) {cfg : Cfg} (hC : CfgOk F cfg) {ops : Array Oper} {idx : List Nat} {Q : Exit → St → Prop} : ∀ {rest : List Oper} {i : Nat} {s s' : St} {hs hs' : List (Nat × HintX)} {cus cus' : List (Nat × Custom)} {cs cs' : List (Nat × Inst)} {r : List Oper},
    (∀ j, rest[j]? = ops[i + j]?) → runC cu call cfg ops.toList i rest s hs cus cs = some (s', hs', cus', cs', r) →
    ∃ n, rest.length = n + r.length ∧ (∀ j, r[j]? = ops[i + n + j]?) ∧ (∀ o r', r = o :: r' → ∀ j want, o.guard = some (j, want) → guardOf ops.toList s'.T j want = some true) ∧
      (LOPS F ops idx Q s' → ∀ {ρ : Env} {a : Act} {w : World}, HoldsS F s ρ a w → wpOpsIn (fen F.rd) 2 F.P ops (Post F Q) (List.range' i n ++ idx) a w)
  | [], i, s, s', hs, hs', cus, cus', cs, cs', r, hr, h => by
    cases h
    exact ⟨0, rfl, hr, fun o r' e => (by cases e), fun hq ρ a w hH => hq.out ρ a w hH⟩
  | o :: rest, i, s, s', hs, hs', cus, cus', cs, cs', r, hr, h => by
    simp only [runC] at h
    have ho : ops[i]? = some o := by have := hr 0; simpa using this.symm
    have hr' : ∀ j, rest[j]? = ops[i + 1 + j]? := fun j => by have := hr (j + 1); simpa [Nat.add_assoc, Nat.add_comm 1 j] using this
    split at h
    · cases h
    rename_i g hg
    split at h
    · rename_i hy
      cases h
      refine ⟨0, (Nat.zero_add _).symm, hr, fun o' r' e j want hgd => ?_, fun hq ρ a w hH => hq.out ρ a w hH⟩
      cases e
      simp only [Bool.and_eq_true] at hy
      rw [hgd] at hg
      simp only at hg
      split at hg
      · rename_i b hb
        cases hg
        have h2 := hy.2
        simp only at h2
        rw [hb, h2]
      · cases hg
    · have more : ∀ {s1 : St} {n : Nat}, (∀ {K : Act → World → Prop}, (∀ ρ' a' w', HoldsS F s1 ρ' a' w' → K a' w') → ∀ {ρ a w}, HoldsS F s ρ a w → wpOpIn (fen F.rd) 2 F.P ops (Post F Q) i K a w) →
          rest.length = n + r.length → (∀ j, r[j]? = ops[i + 1 + n + j]?) → (∀ o r', r = o :: r' → ∀ j want, o.guard = some (j, want) → guardOf ops.toList s'.T j want = some true) →
          (LOPS F ops idx Q s' → ∀ {ρ : Env} {a : Act} {w : World}, HoldsS F s1 ρ a w → wpOpsIn (fen F.rd) 2 F.P ops (Post F Q) (List.range' (i + 1) n ++ idx) a w) →
          ∃ n, (o :: rest).length = n + r.length ∧ (∀ j, r[j]? = ops[i + n + j]?) ∧ (∀ o r', r = o :: r' → ∀ j want, o.guard = some (j, want) → guardOf ops.toList s'.T j want = some true) ∧
            (LOPS F ops idx Q s' → ∀ {ρ : Env} {a : Act} {w : World}, HoldsS F s ρ a w → wpOpsIn (fen F.rd) 2 F.P ops (Post F Q) (List.range' i n ++ idx) a w) := by
        intro s1 n hstep e1 e2 e3 e4
        refine ⟨n + 1, by simp only [List.length_cons]; omega, fun j => by rw [e2]; congr 1; omega, e3, fun hq ρ a w hH => ?_⟩
        rw [List.range'_succ, List.cons_append, wpOpsIn_cons]
        exact hstep (fun ρ' a' w' hH' => e4 hq hH') hH
      split at h
      · rename_i h1 c1 ht
        split at h
        · rename_i s1 cd hst
          split at h
          · rename_i hcd
            obtain ⟨n, e1, e2, e3, e4⟩ := runC_then hcu hcall hC (Q := Q) hr' h
            exact more (s1 := s1) (fun hK _ _ _ hH => (stepOp_sound hC (t := ⟨h1, [], c1⟩) ⟨(fun _ h => by cases h), tellOp_ok hcall ht⟩ hH ho hst (allB_all hcd) (fun ρ' a' w' _ hH' => hK ρ' a' w' hH')).2) e1 e2 e3 e4
          · cases h
        · split at h
          · rename_i s1 cd hst
            split at h
            · rename_i hcd
              obtain ⟨n, e1, e2, e3, e4⟩ := runC_then hcu hcall hC (Q := Q) hr' h
              refine more (s1 := s1) (fun hK _ _ _ hH => (stepOp_sound hC (t := ⟨h1, [(i, cu)], c1⟩) ⟨fun p hp => ?_, tellOp_ok hcall ht⟩ hH ho hst (allB_all hcd) (fun ρ' a' w' _ hH' => hK ρ' a' w' hH')).2) e1 e2 e3 e4
              rcases List.mem_cons.1 hp with rfl | hp
              · exact hcu
              · cases hp
            · cases h
          · cases h
      · cases h

def ExOk (P : Program) (tys : List (Nat × TyI)) (ex : Nat → Bool → Cfg → Code → St → Option (Exit × St)) : Prop := ∀ (F : Frm) (m : Nat) (top : Bool) (cfg : Cfg) (c : Code) (s : St) (e : Exit) (s' : St), F.P = P → cfg.tys = tys → CfgOk F cfg → (top = true → F.rd = none) → ex m top cfg c s = some (e, s') → LWP F c (fun e' t => e' = e ∧ t = s') s

structure RStat.ok (S : RStat) : Prop where
  tv : TValid S.P S.tys
  mix : S.P.follows .mixedOrders = true
  known : ∀ f args gl H I, S.known f args gl H = some I → I.ok S.P
  cust : S.cust.ok S.P

theorem callI_ok {S : RStat} (hS : S.ok) {ex : Nat → Bool → Cfg → Code → St → Option (Exit × St)} (hex : ExOk S.P S.tys ex) : CallOk S.P (callI S ex) := by
  intro f args gl H I h
  unfold callI at h
  split at h
  · rename_i J hJ
    cases h
    exact hS.known _ _ _ _ _ hJ
  · split at h
    · rename_i fn hf
      split at h
      · rename_i c hb hcal
        dsimp only at h
        generalize reach H 10000 (idsL args (gl.map (·.2))) [] = seen at h
        generalize enumI seen 0 = τ at h
        generalize seen.length = m at h
        split at h
        · rename_i hin as1 gl' h1 h2 h3
          split at h
          · rename_i hm
            simp only [Bool.and_eq_true] at hm
            split at h
            · rename_i e s' he
              split at h
              · rename_i l acc hend hres
                generalize reach s'.H 10000 (idsL l (ownKeys hin [])) [] = keep at h
                split at h
                · rename_i cs hes
                  split at h
                  · rename_i hcs
                    cases h
                    refine spec_of_body m hf hcal hb hS.tv hm.1 (Nat.le_of_ble_eq_true hm.2) (renG_lt h3) fun F hP hFm hC hrd => ?_
                    rw [force_eq]
                    refine lwp_mono (hex F _ _ _ c _ e s' hP rfl hC (fun _ => hrd) he) ?_
                    rintro e' t ⟨rfl, rfl⟩
                    exact ⟨isEnd_eq hend, _, cs, hes, allB_all hcs⟩
                  · cases h
                · cases h
              · cases h
            · cases h
          · cases h
        · cases h
      · cases h
    · cases h

theorem loopC_sound {F : Frm} {m : Nat} {x : Code} {run : St → Option (Exit × St)} (hrun : ∀ s e s', run s = some (e, s') → LWP F x (fun e' t => e' = e ∧ t = s') s) : ∀ {k : Nat} {s s' : St} {e : Exit}, loopC m run k s = some (e, s') → rounds F x (fun e' t => e' = e ∧ t = s') k s
  | 0, s, s', e, h => by cases h
  | k + 1, s, s', e, h => by
    simp only [loopC] at h
    split at h
    · rename_i s1 h1
      refine lwp_mono (hrun _ _ _ h1) ?_
      rintro e' t ⟨rfl, rfl⟩
      show rounds F x _ k t
      have := loopC_sound hrun h
      cases k with
      | zero => cases h
      | succ k => exact lwp_sub (gc_sub F m t) this
    · rename_i e1 s1 hne h1
      cases h
      refine lwp_mono (hrun _ _ _ h1) ?_
      rintro e' t ⟨rfl, rfl⟩
      cases e' with
      | normal => exact (hne rfl).elim
      | _ => exact ⟨rfl, rfl⟩
    · cases h

theorem yieldC_sound {P : Program} {tys : List (Nat × TyI)} {ex : Nat → Bool → Cfg → Code → St → Option (Exit × St)} (hex : ExOk P tys ex) {F : Frm} (hP : F.P = P) {cfg : Cfg} (ht : cfg.tys = tys) (hC : CfgOk F cfg) {ops : Array Oper} {j : Nat} {idx : List Nat} {Q : Exit → St → Prop} {o : Oper} (ho : ops[j]? = some o) {s s2 : St}
    (hg : ∀ i want, o.guard = some (i, want) → guardOf ops.toList s.T i want = some true) (h : yieldC ex cfg o s = some s2) (hq : LOPS F ops idx Q s2) : LOPS F ops (j :: idx) Q s := by
  unfold yieldC at h
  split at h
  case h_2 => cases h
  rename_i y cs hy
  split at h
  case h_2 => cases h
  rename_i hcs
  split at h
  case h_2 => cases h
  rename_i s1 h1
  split at h
  case h_2 => cases h
  rename_i T nt ps as1 bd hk1
  split at h
  case h_2 => cases h
  rename_i e s3 h2
  split at h
  case h_2 => cases h
  rename_i T3 nt3 ps3 as3 bd3 hk3
  split at h
  case h_2 => cases h
  rename_i b st hbs
  split at h
  case h_2 => cases h
  rename_i T' hT'
  rw [force_eq] at h
  cases h
  refine lops_yield hC ho hg hy (allB_all hcs) fun F' hP' hm' hC' => ?_
  refine lwp_mono (hex F' _ _ ⟨y.nt, cfg.tys, cfg.globs⟩ _ _ _ _ (hP'.trans hP) ht hC' (fun h => by cases h) h1) ?_
  rintro e' t ⟨rfl, rfl⟩
  refine ⟨rfl, ?_⟩
  rw [hk1]
  refine lwp_mono (hex F' _ _ ⟨y.nt, cfg.tys, cfg.globs⟩ _ _ _ _ (hP'.trans hP) ht hC' (fun h => by cases h) h2) ?_
  rintro e' t2 ⟨rfl, rfl⟩
  unfold RoundEnd
  rw [hk3]
  cases e' with
  | normal => cases hbs; exact ⟨T', hT', hq⟩
  | ret => cases hbs; exact ⟨T', hT', hq⟩
  | exit id => cases hbs; exact ⟨T', hT', hq⟩
  | _ => cases hbs

theorem contC_sound {P : Program} {tys : List (Nat × TyI)} {ex : Nat → Bool → Cfg → Code → St → Option (Exit × St)} (hex : ExOk P tys ex) {F : Frm} (hP : F.P = P) {cfg : Cfg} (ht : cfg.tys = tys) (hC : CfgOk F cfg) {cu : Custom} (hcu : cu.ok F.P) {call : FuncId → List AV → List (Nat × Nat) → List (Nat × Chunk) → Option Inst} (hcall : CallOk F.P call)
    {ops : Array Oper} {Q : Exit → St → Prop} {i : Nat} {rest : List Oper} {s s' : St} (hr : ∀ j, rest[j]? = ops[i + j]?) (hi : i + rest.length = ops.size) (h : contC ex cu call cfg ops i rest s = some s') (hq : Q .normal s') : LOPS F ops (List.range' i rest.length) Q s := by
  unfold contC at h
  split at h
  case h_2 => cases h
  rename_i s1 _ _ _ r h1
  split at h
  · cases h
    obtain ⟨k, e1, _, _, e4⟩ := runC_then hcu hcall hC (ops := ops) (idx := []) (Q := Q) hr h1
    refine ⟨fun ρ a w hh => ?_⟩
    rw [e1]
    simpa using e4 (lops_nil hq) hh
  · rename_i o r'
    split at h
    case h_2 => cases h
    rename_i s2 h2
    split at h
    case h_2 => cases h
    rename_i s3 _ _ _ r2 h3
    split at h
    case h_2 => cases h
    cases h
    obtain ⟨k, e1, e2, e3, _⟩ := runC_then hcu hcall hC (ops := ops) (idx := []) (Q := Q) hr h1
    obtain ⟨k', e1', _, _, e4⟩ := runC_then hcu hcall hC (ops := ops) (idx := (i + k) :: List.range' (i + k + 1) r'.length) (Q := Q) hr h1
    simp only [List.length_cons] at e1 e1'
    have hk' : k' = k := by omega
    subst hk'
    have hsz : ops.size - r'.length = i + k' + 1 := by omega
    rw [hsz] at h3
    have ho : ops[i + k']? = some o := by have := e2 0; simpa using this.symm
    have hrest : ∀ j, r'[j]? = ops[i + k' + 1 + j]? := fun j => by have := e2 (j + 1); rw [List.getElem?_cons_succ] at this; rw [this]; congr 1; omega
    obtain ⟨n2, f1, _, _, f4⟩ := runC_then hcu hcall hC (ops := ops) (idx := []) (Q := Q) hrest h3
    have hn2 : n2 = r'.length := by simpa using f1.symm
    subst hn2
    refine ⟨fun ρ a w hh => ?_⟩
    rw [e1, ← List.range'_append_1, List.range'_succ]
    refine e4 (yieldC_sound hex hP ht hC ho (e3 o r' rfl) h2 ⟨fun ρ a w hh => ?_⟩) hh
    have := f4 (lops_nil hq) hh
    simpa using this

theorem exec_sound {S : RStat} (hS : S.ok) : ∀ n, ExOk S.P S.tys (exec S n)
  | 0 => fun F m top cfg c s e s' hP ht hC htop h => by cases h
  | n + 1 => fun F m top cfg c s e s' hP ht hC htop h => by
    have ih := exec_sound hS n
    cases c with
    | skip => cases h; exact gI ⟨rfl, rfl⟩
    | label l => cases h; exact gL ⟨rfl, rfl⟩
    | ret => cases h; exact gK ⟨rfl, rfl⟩
    | exit id => cases h; exact gJ ⟨rfl, rfl⟩
    | seq x y =>
      simp only [exec] at h
      refine lwp_seq fun K hK => ?_
      split at h
      · rename_i s1 h1
        refine lwp_mono (ih F m top cfg x s _ _ hP ht hC htop h1) ?_
        rintro e' t ⟨rfl, rfl⟩
        exact hK _ (ih F m top cfg y _ _ _ hP ht hC htop h)
      · rename_i e1 s1 hne h1
        cases h
        refine lwp_mono (ih F m top cfg x s _ _ hP ht hC htop h1) ?_
        rintro e' t ⟨rfl, rfl⟩
        cases e' with
        | normal => exact (hne rfl).elim
        | _ => exact ⟨rfl, rfl⟩
      · cases h
    | scope x =>
      simp only [exec] at h
      refine lwp_scope ?_
      split at h
      · cases h
      · rename_i hng
        refine lwp_mono (ih F m top cfg x s _ _ hP ht hC htop h) ?_
        rintro e' t ⟨rfl, rfl⟩
        cases e' with
        | goto l => exact (hng _ _ h).elim
        | _ => exact ⟨rfl, rfl⟩
    | block id x =>
      simp only [exec] at h
      refine gH ?_
      split at h
      · rename_i id' s1 h1
        refine lwp_mono (ih F m top cfg x s _ _ hP ht hC htop h1) ?_
        rintro e' t ⟨rfl, rfl⟩
        simp only [inBlockS]
        split at h <;> rename_i hb <;> cases h <;> rw [hb] <;> exact ⟨rfl, rfl⟩
      · rename_i e1 s1 hne h1
        cases h
        refine lwp_mono (ih F m top cfg x s _ _ hP ht hC htop h1) ?_
        rintro e' t ⟨rfl, rfl⟩
        cases e' with
        | exit id' => exact (hne _ rfl).elim
        | _ => exact ⟨rfl, rfl⟩
      · cases h
    | cond b x y =>
      simp only [exec] at h
      obtain ⟨T, H, nx⟩ := s
      split at h
      · rename_i hev
        exact lwp_cond hC hev trivial (fun _ => ih F m top cfg x _ _ _ hP ht hC htop h) (fun hb => by cases hb)
      · rename_i hev
        exact lwp_cond hC hev trivial (fun hb => by cases hb) (fun _ => ih F m top cfg y _ _ _ hP ht hC htop h)
      · cases h
    | loop x =>
      simp only [exec] at h
      exact lwp_rounds _ (loopC_sound (fun s e s' h => ih F m top cfg x s e s' hP ht hC htop h) h)
    | region id ops drawn =>
      simp only [exec] at h
      obtain ⟨T, H, nx⟩ := s
      have hcall : CallOk F.P (callI S (exec S n)) := by rw [hP]; exact callI_ok hS ih
      have hcu : S.cust.ok F.P := by rw [hP]; exact hS.cust
      split at h
      · split at h
        · rename_i s1 h1
          cases h
          refine lops_region (contC_sound ih hP ht hC hcu hcall (fun j => by simp) (by simp) h1 ⟨rfl, rfl⟩)
        · cases h
      · split at h
        case h_2 => cases h
        rename_i _ hs cus cs r h1
        have htold := runC_told hcu hcall h1 (fun _ h => by cases h) calls_nil
        split at h
        · dsimp only at h
          split at h
          · rename_i s2 css h2
            split at h
            · rename_i hcss
              cases h
              unfold drawnRun at h2
              split at h2
              · exact lwp_drawn hC (by rw [hP]; exact hS.mix) ⟨hs, cus, cs⟩ htold _ _ h2 (allBB_all hcss) ⟨rfl, rfl⟩
              · exact lwp_drawn2 hC (by rw [hP]; exact hS.mix) ⟨hs, cus, cs⟩ htold _ _ _ h2 (allBB_all hcss) ⟨rfl, rfl⟩
            · cases h
          · cases h
        · dsimp only at h
          generalize clOf ops.toList 0 [] = cl at h
          generalize lastFree cl 0 0 = m1 at h
          split at h
          · rename_i s1 css h2
            split at h
            · rename_i hcss
              split at h
              · rename_i s2 h3
                cases h
                refine lwp_drawn_pre hC (by rw [hP]; exact hS.mix) ⟨hs, cus, cs⟩ htold cl m1 h2 (allBB_all hcss) ?_
                have hm1 : m1 ≤ ops.size := preDrawn_le h2
                have e : (ops.toList.drop m1).length = ops.size - m1 := by simp
                rw [← e]
                refine contC_sound ih hP ht hC hcu hcall (fun j => by simp) (by rw [e]; omega) h3 ⟨rfl, rfl⟩
              · cases h
            · cases h
          · cases h
    | rangeFunc g ps assign body =>
      simp only [exec] at h
      obtain ⟨T, H, nx⟩ := s
      split at h
      case h_2 => cases h
      rename_i f l cap hev
      split at h
      case h_2 => cases h
      rename_i fn hf
      split at h
      case h_2 => cases h
      rename_i c nx' hb hnx hok
      simp only [Bool.and_eq_true] at hok
      obtain ⟨⟨hcal, hres⟩, hlen⟩ := hok
      have hres : fn.results = #[] := by
        apply Array.toList_inj.1
        exact List.eq_nil_of_length_eq_zero (Nat.eq_of_beq_eq_true hres)
      split at h
      case h_2 => cases h
      rename_i e2 s2 hex
      split at h
      case h_2 => cases h
      rename_i T3 nt3 ps3 as3 bd3 st hend hk
      refine lwp_range hC (htop rfl) hev trivial (by rw [hP]; exact hf) hcal hb hres hnx hlen fun F' hP' hm' hC' hrd' => ?_
      rw [force_eq]
      refine lwp_mono (ih F' _ true ⟨fn.ntmps, cfg.tys, cfg.globs⟩ _ _ _ _ (hP'.trans hP) ht hC' (fun _ => hrd') hex) ?_
      rintro e' t ⟨rfl, rfl⟩
      refine ⟨isEnd_eq hend, ?_⟩
      rw [hk]
      cases st with
      | ready => cases h; exact ⟨rfl, rfl⟩
      | ret => cases h; exact ⟨rfl, rfl⟩
      | exit id => cases h; exact ⟨rfl, rfl⟩
      | busy => cases h
    | _ => cases h

/-- A body is run in parts: so many statements, and what is behind them. -/
def dropSeq : Nat → Code → Code
  | k + 1, .seq _ y => dropSeq k y
  | _, c => c
def execN (S : RStat) (n m : Nat) (cfg : Cfg) : Nat → Code → St → Option St
  | 0, _, s => some s
  | k + 1, c, s => match c with
    | .seq x y => match exec S n m true cfg x s with
      | some (.normal, s') => execN S n m cfg k y (gc m s')
      | _ => none
    | _ => none
theorem dropSeq_zero (c : Code) : dropSeq 0 c = c := by cases c <;> rfl
theorem execN_sound {S : RStat} (hS : S.ok) {n m : Nat} {cfg : Cfg} {F : Frm} (hP : F.P = S.P) (ht : cfg.tys = S.tys) (hC : CfgOk F cfg) (hrd : F.rd = none) {Q : Exit → St → Prop} : ∀ {k : Nat} {c : Code} {s s' : St}, execN S n m cfg k c s = some s' → LWP F (dropSeq k c) Q s' → LWP F c Q s
  | 0, c, s, s', h, hq => by cases h; rw [dropSeq_zero] at hq; exact hq
  | k + 1, c, s, s', h, hq => by
    cases c with
    | seq x y =>
      simp only [execN] at h
      split at h
      · rename_i s1 h1
        refine lwp_seq fun K hK => lwp_mono (exec_sound hS n F m true cfg x s _ _ hP ht hC (fun _ => hrd) h1) ?_
        rintro e' t ⟨rfl, rfl⟩
        exact hK _ (lwp_sub (gc_sub F m t) (execN_sound hS hP ht hC hrd h hq))
      · cases h
    | _ => cases h
def bodyOf (P : Program) (f : FuncId) : Code := match P.funcs[f]? with
  | some fn => match fn.body with
    | some c => c
    | none => .skip
  | none => .skip
/-- The body's run from a state of the arguments, in parts, as1 a contract. -/
theorem spec_parts {S : RStat} (hS : S.ok) {f : FuncId} {fn : Func} {c : Code} {gl : List (Nat × Nat)} {hin : List (Nat × Chunk)} {args : List AV} {hout : List (Nat × Chunk)} {ret : AV} (m : Nat)
    (hf : S.P.funcs[f]? = some fn) (hcall : callable fn = true) (hb : fn.body = some c) (hm : allKeys m hin = true) (hn : args.length ≤ fn.ntmps) (hg : ∀ g i, (g, i) ∈ gl → i < m)
    (hbody : ∀ F : Frm, F.P = S.P → CfgOk F ⟨fn.ntmps, S.tys, gl⟩ → F.rd = none → LWP F c (EndPost ⟨fn.ntmps, S.tys, gl⟩ m fn.results.toList hout ret) ⟨enumT nums args, hin, m⟩) : FnSpec S.P f gl hin args hout ret :=
  spec_of_body m hf hcall hb hS.tv hm hn hg fun F hP _ hC hrd => by rw [force_eq]; exact hbody F hP hC hrd

end Go.Sym

namespace Go.Sym
open Go.RowKit

def partV (P : Program) (t : TypeId) (cs : Array Value) (off : Nat) : Option Value :=
  match P.underlying t, P.info? t with
  | some d, some i => match isAggD d with
    | true => some (.agg (cs.extract off (off + i.size)))
    | false => cs[off]?
  | _, _ => none
theorem partV_run {P : Program} {t : TypeId} {cs : Array Value} {off : Nat} {v : Value} (h : partV P t cs off = some v) (w : World) : (part t cs off).run P w = .ok v w := by
  unfold partV at h
  split at h
  · rename_i d i h1 h2
    have ha : (isAgg t).run P w = .ok (isAggD d) w := by
      simp only [isAgg, Sem.run_bind, run_underlying h1, Result.andThen_ok]
      cases d <;> rfl
    have hs : (sizeOf t).run P w = .ok i.size w := by simp [sizeOf, typeInfo, h2]
    split at h
    · rename_i hb
      cases h
      simp [part, ha, hb, hs]
    · rename_i hb
      simp [part, ha, hb, h]
  · cases h

def eqFs (eq : TypeId → Value → Value → Option Bool) (P : Program) (xs ys : Array Value) : List Field → Option Bool
  | [] => some true
  | f :: fs => match f.name != "_" with
    | true => match partV P f.type xs f.offset, partV P f.type ys f.offset with
      | some a, some b => match eq f.type a b with
        | some true => eqFs eq P xs ys fs
        | some false => some false
        | none => none
      | _, _ => none
    | false => eqFs eq P xs ys fs
def eqIs (eq : TypeId → Value → Value → Option Bool) (P : Program) (e : TypeId) (c : Nat) (xs ys : Array Value) : List Nat → Option Bool
  | [] => some true
  | i :: is => match partV P e xs (i * c), partV P e ys (i * c) with
    | some a, some b => match eq e a b with
      | some true => eqIs eq P e c xs ys is
      | some false => some false
      | none => none
    | _, _ => none
/-- Whether two values of a type are equal. -/
def eqT (P : Program) : Nat → TypeId → Value → Value → Option Bool
  | 0, _, _, _ => none
  | d + 1, t, x, y => match P.underlying t, x, y with
    | some .bool, .bool a, .bool b => some (a == b)
    | some (.int _), .int k a, .int k' b => match decide (k = k') with | true => some (a == b) | false => none
    | some (.float _), .float k a, .float k' b => match decide (k = k') with | true => some (Op.floatEq k a b) | false => none
    | some (.complex _), .complex k a b, .complex k' a' b' => match decide (k = k') with | true => some (Op.floatEq k a a' && Op.floatEq k b b') | false => none
    | some .string, .string a, .string b => some (a == b)
    | some (.struct fs), .agg xs, .agg ys => match P.stoodInHeld t with
      | false => eqFs (eqT P d) P xs ys fs.toList
      | true => none
    | some (.array n e), .agg xs, .agg ys => match P.info? e with
      | some i => eqIs (eqT P d) P e i.size xs ys (List.range n)
      | none => none
    | _, _, _ => none

section
variable {P : Program}
theorem eqFs_run {eq : TypeId → Value → Value → Option Bool} {D : Nat} {w : World} (h : ∀ t x y b, eq t x y = some b → (Op.equalIn D t x y).run P w = .ok b w) {xs ys : Array Value} : ∀ {fs : List Field} {b : Bool}, eqFs eq P xs ys fs = some b → (Op.eqFields D xs ys fs).run P w = .ok b w
  | [], b, e => by cases e; simp [Op.eqFields]
  | f :: fs, b, e => by
    simp only [eqFs] at e
    split at e
    · rename_i hn
      have hn' : f.name ≠ "_" := by simpa using hn
      split at e
      · rename_i x y h1 h2
        simp only [Op.eqFields, if_pos hn', Sem.run_bind, partV_run h1 w, partV_run h2 w, Result.andThen_ok]
        split at e
        · rename_i h3
          simp only [h _ _ _ _ h3, Result.andThen_ok, Bool.not_true, Bool.false_eq_true, if_false]
          exact eqFs_run h e
        · rename_i h3
          cases e
          simp only [h _ _ _ _ h3, Result.andThen_ok, Bool.not_false, if_true, Sem.run_pure]
        · cases e
      · cases e
    · rename_i hn
      have hn' : ¬ f.name ≠ "_" := by simpa using hn
      simp only [Op.eqFields, if_neg hn']
      exact eqFs_run h e
theorem eqIs_run {eq : TypeId → Value → Value → Option Bool} {D : Nat} {w : World} (h : ∀ t x y b, eq t x y = some b → (Op.equalIn D t x y).run P w = .ok b w) {e : TypeId} {c : Nat} {xs ys : Array Value} : ∀ {is : List Nat} {b : Bool}, eqIs eq P e c xs ys is = some b → (Op.eqItems D e c xs ys is).run P w = .ok b w
  | [], b, he => by cases he; simp [Op.eqItems]
  | f :: fs, b, he => by
    simp only [eqIs] at he
    split at he
    · rename_i x y h1 h2
      simp only [Op.eqItems, Sem.run_bind, partV_run h1 w, partV_run h2 w, Result.andThen_ok]
      split at he
      · rename_i h3
        simp only [h _ _ _ _ h3, Result.andThen_ok, Bool.not_true, Bool.false_eq_true, if_false]
        exact eqIs_run h he
      · rename_i h3
        cases he
        simp only [h _ _ _ _ h3, Result.andThen_ok, Bool.not_false, if_true, Sem.run_pure]
      · cases he
    · cases he
theorem eqT_run {w : World} : ∀ {n D : Nat} {t : TypeId} {x y : Value} {b : Bool}, n ≤ D → eqT P n t x y = some b → (Op.equalIn D t x y).run P w = .ok b w
  | 0, D, t, x, y, b, hD, h => by cases h
  | n + 1, 0, t, x, y, b, hD, h => by omega
  | n + 1, D + 1, t, x, y, b, hD, h => by
    simp only [eqT] at h
    split at h
    · rename_i hu; cases h; simp [Op.equalIn, run_underlying hu]
    · rename_i k a k' b' hu
      split at h
      · rename_i hk; cases h; simp [Op.equalIn, run_underlying hu, of_decide_eq_true hk]
      · cases h
    · rename_i k a k' b' hu
      split at h
      · rename_i hk; cases h; simp [Op.equalIn, run_underlying hu, of_decide_eq_true hk]
      · cases h
    · rename_i hu
      split at h
      · rename_i hk; cases h; simp [Op.equalIn, run_underlying hu, of_decide_eq_true hk]
      · cases h
    · rename_i hu; cases h; simp [Op.equalIn, run_underlying hu]
    · rename_i fs xs ys hu
      split at h
      · rename_i hst
        have hf : P.fieldsOf t = fs := by simp [Program.fieldsOf, hu]
        rw [run_equalIn_struct w D t xs ys (by rw [hf]; exact hu) hst, hf]
        exact eqFs_run (fun t x y b e => eqT_run (by omega) e) h
      · cases h
    · rename_i m e xs ys hu
      split at h
      · rename_i i hi
        rw [run_equalIn_array w D xs ys hu hi]
        have : P.cellsOf e = i.size := by simp [Program.cellsOf, hi]
        rw [this]
        exact eqIs_run (fun t x y b e => eqT_run (by omega) e) h
      · cases h
    · cases h
end

/-- A binary operation on values that are there. -/
def binV (P : Program) (op : BinOp) (t : TypeId) (x y : Value) : Option Value :=
  match op, x, y with
  | .shl, .int k a, .int _ b => match decide (b < 0) with | false => some (.int k (k.wrap (a * 2 ^ (min b.toNat k.bits)))) | true => none
  | .shr, .int k a, .int _ b => match decide (b < 0) with | false => some (.int k (a.fdiv (2 ^ (min b.toNat k.bits)))) | true => none
  | .and, .int k a, .int k' b => match decide (k = k') with | true => some (.int k (k.wrap (BitVec.ofInt k.bits a &&& BitVec.ofInt k.bits b).toNat)) | false => none
  | .or, .int k a, .int k' b => match decide (k = k') with | true => some (.int k (k.wrap (BitVec.ofInt k.bits a ||| BitVec.ofInt k.bits b).toNat)) | false => none
  | .xor, .int k a, .int k' b => match decide (k = k') with | true => some (.int k (k.wrap (BitVec.ofInt k.bits a ^^^ BitVec.ofInt k.bits b).toNat)) | false => none
  | .mul, .int k a, .int k' b => match decide (k = k') with | true => some (.int k (k.wrap (a * b))) | false => none
  | .add, .int k a, .int k' b => match decide (k = k') with | true => some (.int k (k.wrap (a + b))) | false => none
  | .sub, .int k a, .int k' b => match decide (k = k') with | true => some (.int k (k.wrap (a - b))) | false => none
  | .add, .float k a, .float k' b => match decide (k = k') with | true => (k.format.add a b).map (.float k) | false => none
  | .sub, .float k a, .float k' b => match decide (k = k') with | true => (k.format.sub a b).map (.float k) | false => none
  | .mul, .float k a, .float k' b => match decide (k = k') with | true => (k.format.mul a b).map (.float k) | false => none
  | .quo, .float k a, .float k' b => match decide (k = k') with | true => (k.format.div a b).map (.float k) | false => none
  | .eql, .float k a, .float k' b => match decide (k = k') with | true => some (.bool (k.format.order a b == some .eq)) | false => none
  | .neq, .float k a, .float k' b => match decide (k = k') with | true => some (.bool (k.format.order a b != some .eq)) | false => none
  | .lss, .float k a, .float k' b => match decide (k = k') with | true => some (.bool (k.format.order a b == some .lt)) | false => none
  | .gtr, .float k a, .float k' b => match decide (k = k') with | true => some (.bool (k.format.order a b == some .gt)) | false => none
  | .leq, .float k a, .float k' b => match decide (k = k') with | true => some (.bool (k.format.order a b == some .lt || k.format.order a b == some .eq)) | false => none
  | .geq, .float k a, .float k' b => match decide (k = k') with | true => some (.bool (k.format.order a b == some .gt || k.format.order a b == some .eq)) | false => none
  | .lss, .string a, .string b => some (.bool (Op.bytesLess a.toList b.toList))
  | .gtr, .string a, .string b => some (.bool (!(Op.bytesLess a.toList b.toList || a.toList == b.toList)))
  | .leq, .string a, .string b => some (.bool (Op.bytesLess a.toList b.toList || a.toList == b.toList))
  | .geq, .string a, .string b => some (.bool (!Op.bytesLess a.toList b.toList))
  | .add, .complex .f64 a b, .complex .f64 c d => match FloatKind.f64.format.add a c, FloatKind.f64.format.add b d with
    | some r, some i => some (.complex .f64 r i)
    | _, _ => none
  | .sub, .complex .f64 a b, .complex .f64 c d => match FloatKind.f64.format.sub a c, FloatKind.f64.format.sub b d with
    | some r, some i => some (.complex .f64 r i)
    | _, _ => none
  | .mul, .complex .f64 a b, .complex .f64 c d => match FloatKind.f64.format.mul a c, FloatKind.f64.format.mul b d, FloatKind.f64.format.mul a d, FloatKind.f64.format.mul b c with
    | some ac, some bd, some ad, some bc => match FloatKind.f64.format.sub ac bd, FloatKind.f64.format.add ad bc with
      | some r, some i => some (.complex .f64 r i)
      | _, _ => none
    | _, _, _, _ => none
  | .eql, .agg a, .agg b => match P.eqGuardType P.depth t, eqT P 20 t (.agg a) (.agg b) with
    | false, some r => some (.bool r)
    | _, _ => none
  | .neq, .agg a, .agg b => match P.eqGuardType P.depth t, eqT P 20 t (.agg a) (.agg b) with
    | false, some r => some (.bool (!r))
    | _, _ => none
  | _, _, _ => none
theorem binV_run {P : Program} {op : BinOp} {t : TypeId} {x y v : Value} (h : binV P op t x y = some v) (xo yo : Operand) (w : World) : (do eqGuard op t xo yo x y; binOp op t x y).run P w = .ok v w := by
  unfold binV at h
  split at h
  case h_1 | h_2 =>
    split at h
    · rename_i hb
      have hb' := of_decide_eq_false hb
      cases h
      simp [eqGuard, binOp, Op.shift, hb']
    · cases h
  case h_3 | h_4 | h_5 | h_6 | h_7 | h_8 =>
    split at h
    · rename_i hk
      have hk := of_decide_eq_true hk
      subst hk
      cases h
      simp [eqGuard, binOp, Op.intBits, Op.intArith]
    · cases h
  case h_9 | h_10 | h_11 | h_12 =>
    split at h
    · rename_i hk
      have hk := of_decide_eq_true hk
      subst hk
      simp only [Option.map_eq_some_iff] at h
      obtain ⟨r, h1, rfl⟩ := h
      simp [eqGuard, binOp, Op.floatArith, h1]
    · cases h
  case h_13 | h_14 | h_15 | h_16 | h_17 | h_18 =>
    split at h
    · rename_i hk
      have hk := of_decide_eq_true hk
      subst hk
      cases h
      simp [eqGuard, binOp, Op.floatCmp]
    · cases h
  case h_19 | h_20 | h_21 | h_22 =>
    cases h
    simp [eqGuard, binOp, Op.stringOp]
  case h_23 | h_24 =>
    split at h
    · rename_i r i h1 h2
      cases h
      simp [eqGuard, binOp, Op.complexOp, Op.Complex.arith, Op.floatArith, h1, h2]
    · cases h
  case h_25 =>
    split at h
    · rename_i ac bd ad bc h1 h2 h3 h4
      split at h
      · rename_i r i h5 h6
        cases h
        simp [eqGuard, binOp, Op.complexOp, Op.Complex.product, Op.Complex.conv, Op.Complex.mul, Op.Complex.sub, Op.Complex.add, Op.Complex.arith, Op.floatArith, h1, h2, h3, h4, h5, h6]
      · cases h
    · cases h
  case h_26 =>
    split at h
    · rename_i r h1 h2
      cases h
      have h3 := eqT_run (w := w) (D := Op.maxDepth) (by decide) h2
      simp [run_eqGuard_agg, h1, binOp, Op.equal, h3]
    · cases h
  case h_27 =>
    split at h
    · rename_i r h1 h2
      cases h
      have h3 := eqT_run (w := w) (D := Op.maxDepth) (by decide) h2
      simp [run_eqGuard_agg, h1, binOp, Op.equal, h3]
    · cases h
  case h_28 => cases h

def unV (op : UnOp) (x : Value) : Option Value :=
  match op, x with
  | .neg, .int k n => some (.int k (k.wrap (0 - n)))
  | .neg, .float k b => some (.float k (Op.negFloat k b))
  | .neg, .complex k re im => some (.complex k (Op.negFloat k re) (Op.negFloat k im))
  | .xor, .int k n => some (.int k (k.wrap (BitVec.ofInt k.bits (if k.signed then -1 else k.max) ^^^ BitVec.ofInt k.bits n).toNat))
  | _, _ => none
theorem unV_run {P : Program} {op : UnOp} {x v : Value} (h : unV op x = some v) (w : World) : (Op.unary op x).run P w = .ok v w := by
  unfold unV at h
  split at h
  · cases h; simp [Op.unary, Op.intArith]
  · cases h; simp [Op.unary]
  · cases h; simp [Op.unary]
  · cases h; simp [Op.unary, Op.intBits]
  · cases h

def convV (P : Program) (s d : TypeId) (x : Value) : Option Value :=
  match P.underlying s, P.underlying d, x with
  | some _, some (.int k), .int _ n => some (.int k (k.wrap n))
  | some _, some (.int k), .float f b => match (f.decode b).toInt .zero with
    | some n => match decide (k.min ≤ n ∧ n ≤ k.max) with | true => some (.int k n) | false => none
    | none => none
  | some _, some (.float k), .float f b => match decide (f = k) with
    | true => some (.float k b)
    | false => match f.decode b with
      | .infinity g => some (.float k (k.encode (.infinity g)))
      | .number g m e => match (k.decode (k.encode (.number g m e))).isInfinity with | true => none | false => some (.float k (k.encode (.number g m e)))
      | _ => none
  | _, _, _ => none
theorem convV_run {P : Program} {s d : TypeId} {x v : Value} (h : convV P s d x = some v) (w : World) : (convert s d x).run P w = .ok v w := by
  unfold convV at h
  split at h
  · rename_i hs hd; cases h; simp [convert, run_underlying hs, run_underlying hd, Conv.intToInt]
  · rename_i hs hd
    split at h
    · rename_i n hn
      split at h
      · rename_i hb
        cases h
        simp only [convert, Sem.run_bind, run_underlying hs, run_underlying hd, Result.andThen_ok, Conv.floatToInt, hn, if_pos (of_decide_eq_true hb), Sem.run_pure]
      · cases h
    · cases h
  · rename_i hs hd
    split at h
    · rename_i hk
      cases h
      simp only [convert, Sem.run_bind, run_underlying hs, run_underlying hd, Result.andThen_ok, Conv.floatToFloat, if_pos (of_decide_eq_true hk), Sem.run_pure]
    · rename_i hk
      have hk' := of_decide_eq_false hk
      split at h
      · rename_i g hg
        cases h
        simp only [convert, Sem.run_bind, run_underlying hs, run_underlying hd, Result.andThen_ok, Conv.floatToFloat, if_neg hk', hg, Sem.run_pure]
      · rename_i g m e hg
        split at h
        · cases h
        · rename_i hi
          cases h
          simp only [convert, Sem.run_bind, run_underlying hs, run_underlying hd, Result.andThen_ok, Conv.floatToFloat, if_neg hk', hg, hi, Bool.false_eq_true, if_false, Sem.run_pure]
      · cases h
  · cases h

def indexV (P : Program) (t : TypeId) (x i : Value) : Option Value :=
  match P.underlying t, x, i with
  | some (.array len e), .agg cs, .int _ n => match decide (0 ≤ n ∧ n < len), P.info? e with
    | true, some ti => partV P e cs (n.toNat * ti.size)
    | _, _ => none
  | some .string, .string s, .int _ n => match decide (0 ≤ n) with
    | true => (s[n.toNat]?).map fun b => .int .u8 b.toNat
    | false => none
  | _, _, _ => none
theorem indexV_run {P : Program} {t : TypeId} {x i v : Value} (h : indexV P t x i = some v) (w : World) : (Instr.index t x i).run P w = .ok v w := by
  unfold indexV at h
  split at h
  · rename_i len e cs k n hu
    split at h
    · rename_i ti hb hi
      have hb := of_decide_eq_true hb
      have hs : (sizeOf e).run P w = .ok ti.size w := by simp [sizeOf, typeInfo, hi]
      simp only [Instr.index, asIntOf, Sem.run_bind, Sem.run_pure, Result.andThen_ok, run_underlying hu, if_pos hb, hs, partV_run h w]
    · cases h
  · rename_i s k n hu
    split at h
    · rename_i hb
      have hb := of_decide_eq_true hb
      simp only [Option.map_eq_some_iff] at h
      obtain ⟨b, h1, rfl⟩ := h
      simp only [Instr.index, asIntOf, Sem.run_bind, Sem.run_pure, Result.andThen_ok, run_underlying hu, if_pos hb, h1]
    · cases h
  · cases h
def fieldV (P : Program) (t : TypeId) (x : Value) (f : Nat) : Option Value :=
  match P.underlying t, x with
  | some (.struct fs), .agg cs => match fs[f]? with
    | some fd => partV P fd.type cs fd.offset
    | none => none
  | _, _ => none
theorem fieldV_run {P : Program} {t : TypeId} {x v : Value} {f : Nat} (h : fieldV P t x f = some v) (w : World) : (Instr.field t x f).run P w = .ok v w := by
  unfold fieldV at h
  split at h
  · rename_i fs cs hu
    split at h
    · rename_i fd hf
      simp only [Instr.field, Sem.run_bind, Result.andThen_ok, run_underlying hu, hf, asAgg, Sem.run_pure, partV_run h w]
    · cases h
  · cases h

/-- A field of a struct that holds references. -/
def fieldS (P : Program) (t : TypeId) (m : List AV) (f : Nat) : Option AV :=
  match P.underlying t with
  | some (.struct fs) => match fs[f]? with
    | some fd => match P.underlying fd.type, P.info? fd.type with
      | some d, some i => match isAggD d with
        | true => some (.agg ((m.drop fd.offset).take i.size))
        | false => m[fd.offset]?
      | _, _ => none
    | none => none
  | _ => none
theorem fieldS_sound {P : Program} {t : TypeId} {m : List AV} {r : AV} {f : Nat} {ρ : Env} {vs : List Value} (h : fieldS P t m f = some r) (hd : AV.denL ρ m = some vs) : ∃ v, r.den ρ = some v ∧ fieldV P t (.agg vs.toArray) f = some v := by
  unfold fieldS at h
  split at h
  · rename_i fs hu
    split at h
    · rename_i fd hf
      split at h
      · rename_i d i h1 h2
        split at h
        · rename_i hb
          cases h
          refine ⟨.agg (((vs.drop fd.offset).take i.size).toArray), ?_, ?_⟩
          · simp only [AV.den, (denL_take i.size (denL_take fd.offset hd).2).1, Option.map_some]
          · simp only [fieldV, hu, hf, partV, h1, h2, hb, List.extract_toArray, List.extract_eq_take_drop, Nat.add_sub_cancel_left]
        · rename_i hb
          obtain ⟨v, h3, h4⟩ := denL_at hd h
          exact ⟨v, h3, by simp only [fieldV, hu, hf, partV, h1, h2, hb]; simpa using h4⟩
      · cases h
    · cases h
  · cases h

def custV (P : Program) : Custom := ⟨fun o l => match AV.denL (fun _ => none) l with
  | some vs => match o.op, vs with
    | .binOp op t _ _ _, [x, y] => (binV P op t x y).map AV.lit
    | .unOp op _ _, [x] => (unV op x).map AV.lit
    | .convert s d _, [x] => (convV P s d x).map AV.lit
    | .index t _ _, [x, i] => (indexV P t x i).map AV.lit
    | .field t _ f, [x] => (fieldV P t x f).map AV.lit
    | _, _ => none
  | none => match o.op, l with
    | .field t _ f, [.agg m] => fieldS P t m f
    | _, _ => none⟩
theorem custV_ok (P : Program) : (custV P).ok P := by
  intro o l r h ρ w e vs hd hv
  dsimp only [custV] at h
  split at h
  · rename_i us hu
    have hle : Env.le (fun _ => none) ρ := fun i L e => by cases e
    have := AV.denL_mono hle _ _ hu
    rw [this] at hd
    cases hd
    split at h
    · rename_i op t x y yt a b ho
      simp only [Option.map_eq_some_iff] at h
      obtain ⟨v, h1, rfl⟩ := h
      rw [ho] at hv
      simp only [Op.operands, List.map_cons, List.map_nil, List.cons.injEq, and_true] at hv
      obtain ⟨rfl, rfl⟩ := hv
      refine ⟨v, by simp [AV.den], ?_⟩
      have := binV_run h1 x y w
      simp only [execOp, ho, Sem.run_bind] at this ⊢
      rw [this]
      rfl
    · rename_i op t x a ho
      simp only [Option.map_eq_some_iff] at h
      obtain ⟨v, h1, rfl⟩ := h
      rw [ho] at hv
      simp only [Op.operands, List.map_cons, List.map_nil, List.cons.injEq, and_true] at hv
      subst hv
      refine ⟨v, by simp [AV.den], ?_⟩
      simp only [execOp, ho, Sem.run_bind, unV_run h1 w]
      rfl
    · rename_i s d x a ho
      simp only [Option.map_eq_some_iff] at h
      obtain ⟨v, h1, rfl⟩ := h
      rw [ho] at hv
      simp only [Op.operands, List.map_cons, List.map_nil, List.cons.injEq, and_true] at hv
      subst hv
      refine ⟨v, by simp [AV.den], ?_⟩
      simp only [execOp, ho, Sem.run_bind, convV_run h1 w]
      rfl
    · rename_i t x y a b ho
      simp only [Option.map_eq_some_iff] at h
      obtain ⟨v, h1, rfl⟩ := h
      rw [ho] at hv
      simp only [Op.operands, List.map_cons, List.map_nil, List.cons.injEq, and_true] at hv
      obtain ⟨rfl, rfl⟩ := hv
      refine ⟨v, by simp [AV.den], ?_⟩
      simp only [execOp, ho, Sem.run_bind, indexV_run h1 w]
      rfl
    · rename_i t x f a ho
      simp only [Option.map_eq_some_iff] at h
      obtain ⟨v, h1, rfl⟩ := h
      rw [ho] at hv
      simp only [Op.operands, List.map_cons, List.map_nil, List.cons.injEq, and_true] at hv
      subst hv
      refine ⟨v, by simp [AV.den], ?_⟩
      simp only [execOp, ho, Sem.run_bind, fieldV_run h1 w]
      rfl
    · cases h
  · rename_i hnn
    clear hnn
    split at h
    · rename_i t x f m ho
      rw [ho] at hv
      simp only [Op.operands, List.map_cons, List.map_nil] at hv
      subst hv
      simp only [AV.denL] at hd
      obtain ⟨a, b, h1, h2, h3⟩ := listO_some hd
      cases h2
      cases h3
      simp only [AV.den, Option.map_eq_some_iff] at h1
      obtain ⟨us, h4, h5⟩ := h1
      obtain ⟨v, h6, h7⟩ := fieldS_sound h h4
      refine ⟨v, h6, ?_⟩
      rw [h5] at h7
      simp only [execOp, ho, Sem.run_bind, fieldV_run h7 w]
      rfl
    · cases h

end Go.Sym

namespace Go.Sym
open Go.RowKit

def glBelow (m : Nat) : List (Nat × Nat) → Bool
  | [] => true
  | (_, i) :: l => match Nat.blt i m with | true => glBelow m l | false => false
theorem glBelow_lt {m : Nat} : ∀ {l : List (Nat × Nat)}, glBelow m l = true → ∀ g i, (g, i) ∈ l → i < m
  | [], _, g, i, hm => by cases hm
  | (g', i') :: l, h, g, i, hm => by
    simp only [glBelow] at h
    split at h
    · rename_i hb
      rcases List.mem_cons.1 hm with e | hm
      · cases e; exact Nat.le_of_ble_eq_true hb
      · exact glBelow_lt h g i hm
    · cases h
def roKeys : List (Nat × Chunk) → List Nat
  | [] => []
  | (i, c) :: l => match c.own with | true => roKeys l | false => i :: roKeys l
/-- The contract that is given, its chunks behind by the run's own numbers, checked by a run. -/
def chkI (S : RStat) (n : Nat) (I : Inst) : Bool := match S.P.funcs[I.f]? with
  | some fn => match fn.body, callable fn with
    | some c, true => match I.hin.length with
      | m => match allKeys m I.hin && Nat.ble I.args.length fn.ntmps && glBelow m I.gl with
        | true => match exec S n m true ⟨fn.ntmps, S.tys, I.gl⟩ c ⟨enumT nums I.args, I.hin, m⟩ with
          | some (e, s') => match isEnd e, endS ⟨fn.ntmps, S.tys, I.gl⟩ m (idRen (I.hout.map (·.1) ++ roKeys I.hin)) fn.results.toList I.hout I.ret s' with
            | true, some cs => allB cs
            | _, _ => false
          | none => false
        | false => false
    | _, _ => false
  | none => false
theorem chkI_ok {S : RStat} (hS : S.ok) {n : Nat} {I : Inst} (h : chkI S n I = true) : I.ok S.P := by
  unfold chkI at h
  split at h
  case h_2 => cases h
  rename_i fn hf
  split at h
  case h_2 => cases h
  rename_i c hb hcall
  dsimp only at h
  split at h
  case h_2 => cases h
  rename_i hm
  simp only [Bool.and_eq_true] at hm
  split at h
  case h_2 => cases h
  rename_i e s' hex
  split at h
  case h_2 => cases h
  rename_i cs hend hE
  refine spec_parts hS I.hin.length hf hcall hb hm.1.1 (Nat.le_of_ble_eq_true hm.1.2) (glBelow_lt hm.2) fun F hP hC hrd => ?_
  refine lwp_mono (exec_sound hS n F _ true _ _ _ _ _ hP rfl hC (fun _ => hrd) hex) ?_
  rintro e' t ⟨rfl, rfl⟩
  exact end_intro (isEnd_eq hend) _ hE (allB_all h)

end Go.Sym
