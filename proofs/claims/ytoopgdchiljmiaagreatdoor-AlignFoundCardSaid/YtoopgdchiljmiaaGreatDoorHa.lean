/- Runs: what the checks say of them (chapter 5's ground). -/
import Derived.Test.YtoopgdchiljmiaaGreatDoorZa
import Derived.Test.YtoopgdchiljmiaaGreatDoorDz
set_option linter.unusedVariables false
set_option linter.unusedSimpArgs false
namespace Go.Proofs.YtoopgdchiljmiaaGreatDoor
open Go.RowKit Go.Sym

def spans (l : List (Int × Int)) : List Value := l.flatMap fun p => [.int .i64 p.1, .int .i64 p.2]
theorem spans_len (l : List (Int × Int)) : (spans l).length = l.length * 2 := by
  induction l with
  | nil => rfl
  | cons a l ih => simp only [spans, List.flatMap_cons, List.length_append, List.length_cons, List.length_nil] at ih ⊢; omega
theorem spans_append (a b : List (Int × Int)) : spans (a ++ b) = spans a ++ spans b := by simp [spans]
def spanS (n : Int) (h : Int × Int) : Int := whenS (decide (h.1 < 0) || decide (h.2 ≤ h.1) || decide (n < h.2)) 14
def holeS (n last : Int) (h : Int × Int) : Int := firstS [spanS n h, whenS (decide (h.1 ≤ last)) 11]
def holesS (n : Int) : Int → List (Int × Int) → Int
  | _, [] => 0
  | last, h :: l => if holeS n last h ≠ 0 then holeS n last h else holesS n h.2 l
def formS (l : List Int) : List (Int × Int) → Int
  | [] => 0
  | h :: r => if ((l.drop h.1.toNat).take (h.2 - h.1).toNat).any (· != 0) then 1 else formS l r
theorem withinS_eq (n lo hi : Int) : withinS n lo hi = 0 ↔ lo ≤ n ∧ n ≤ hi := by unfold withinS; split <;> omega
theorem whenS_eq (b : Bool) (e : Int) (he : e ≠ 0) : whenS b e = 0 ↔ b = false := by cases b <;> simp [whenS, he]
theorem firstS_eq (l : List Int) : firstS l = 0 ↔ ∀ x ∈ l, x = 0 := by
  induction l with
  | nil => simp [firstS]
  | cons a l ih => unfold firstS; by_cases h : a = 0 <;> simp [h, ih]
def spC (l : List (Int × Int)) : Cont := genL (fun p : Int × Int => [.int .i64 p.1, .int .i64 p.2]) (0, 0) 2 l
theorem spC_cells (l : List (Int × Int)) : (spC l).cells = (spans l).map AV.lit := genL_cells (f := fun p : Int × Int => [Value.int .i64 p.1, Value.int .i64 p.2]) (fun _ => rfl) l
/-- The holes of a valid trace. -/
def HolesOk (n : Nat) (hs : List (Int × Int)) : Prop := ∀ p ∈ hs, 0 ≤ p.1 ∧ p.1 < p.2 ∧ p.2 ≤ n
theorem holesS_ok (n : Nat) : ∀ (hs : List (Int × Int)) (last : Int), holesS n last hs = 0 → HolesOk n hs
  | [], _, _ => fun p hp => by cases hp
  | h :: l, last, hz => by
    unfold holesS at hz
    have h1 : holeS n last h = 0 := by
      by_cases e : holeS n last h = 0
      · exact e
      · rw [if_pos e] at hz; exact absurd hz e
    rw [if_neg (by simpa using h1)] at hz
    have ih := holesS_ok n l h.2 hz
    unfold holeS at h1
    rw [firstS_eq] at h1
    have h2 := h1 _ List.mem_cons_self
    unfold spanS at h2
    rw [whenS_eq _ 14 (by decide)] at h2
    simp only [Bool.or_eq_false_iff, decide_eq_false_iff_not] at h2
    intro p hp
    rcases List.mem_cons.1 hp with rfl | hp
    · omega
    · exact ih p hp
def knownB (hs : List (Int × Int)) (i : Int) : Bool := !hs.any fun h => decide (h.1 ≤ i) && decide (i < h.2)
theorem formS_eq (l : List Int) : ∀ hs : List (Int × Int), HolesOk l.length hs → (formS l hs = 1 ∨ formS l hs = 0) ∧ (formS l hs = 1 ↔ ∃ i : Nat, i < l.length ∧ l.getD i 0 ≠ 0 ∧ knownB hs i = false)
  | [], _ => by simp [formS, knownB]
  | h :: hs, hok => by
    have h1 := hok h List.mem_cons_self
    obtain ⟨ih1, ih2⟩ := formS_eq l hs fun p hp => hok p (List.mem_cons_of_mem _ hp)
    have hany : ((l.drop h.1.toNat).take (h.2 - h.1).toNat).any (· != 0) = true ↔ ∃ i : Nat, i < l.length ∧ l.getD i 0 ≠ 0 ∧ (h.1 ≤ (i : Int) ∧ (i : Int) < h.2) := by
      rw [List.any_eq_true]
      constructor
      · rintro ⟨x, hx, hne⟩
        obtain ⟨j, hj, rfl⟩ := List.mem_iff_getElem.1 hx
        have hj2 := hj
        rw [List.length_take, List.length_drop] at hj2
        refine ⟨h.1.toNat + j, by omega, ?_, by omega, by omega⟩
        rw [List.getElem_take, List.getElem_drop] at hne
        rw [List.getD_eq_getElem?_getD, List.getElem?_eq_getElem (show h.1.toNat + j < l.length by omega)]
        simpa using hne
      · rintro ⟨i, hi, hne, ha, hb⟩
        have hj : i - h.1.toNat < ((l.drop h.1.toNat).take (h.2 - h.1).toNat).length := by rw [List.length_take, List.length_drop]; omega
        refine ⟨_, List.getElem_mem hj, ?_⟩
        rw [List.getElem_take, List.getElem_drop]
        have e : h.1.toNat + (i - h.1.toNat) = i := by omega
        simp only [e]
        rw [List.getD_eq_getElem?_getD, List.getElem?_eq_getElem hi] at hne
        simpa using hne
    have hk : ∀ i : Nat, knownB (h :: hs) i = false ↔ (h.1 ≤ (i : Int) ∧ (i : Int) < h.2) ∨ knownB hs i = false := by
      intro i
      unfold knownB
      rw [List.any_cons]
      cases hs.any _ <;> simp
    unfold formS
    by_cases hc : ((l.drop h.1.toNat).take (h.2 - h.1).toNat).any (· != 0) = true
    · rw [if_pos hc]
      refine ⟨.inl rfl, ⟨fun _ => ?_, fun _ => rfl⟩⟩
      obtain ⟨i, a, b, c⟩ := hany.1 hc
      exact ⟨i, a, b, (hk i).2 (.inl c)⟩
    · rw [if_neg hc]
      refine ⟨ih1, ih2.trans ⟨fun ⟨i, a, b, c⟩ => ⟨i, a, b, (hk i).2 (.inr c)⟩, fun ⟨i, a, b, c⟩ => ?_⟩⟩
      rcases (hk i).1 c with c | c
      · exact absurd (hany.2 ⟨i, a, b, c⟩) hc
      · exact ⟨i, a, b, c⟩
/-- Where the hole before number k ends. -/
def lastH (hs : List (Int × Int)) (k : Nat) : Int := if k = 0 then -1 else (hs.getD (k - 1) (0, 0)).2
theorem holesS_step (n last : Int) (hs : List (Int × Int)) (k : Nat) (hk : k < hs.length) : holesS n last (hs.drop k) = if holeS n last (hs.getD k (0, 0)) ≠ 0 then holeS n last (hs.getD k (0, 0)) else holesS n (lastH hs (k + 1)) (hs.drop (k + 1)) := by
  rw [List.drop_eq_getElem_cons hk]
  simp only [holesS, lastH, List.getD_eq_getElem?_getD, List.getElem?_eq_getElem hk, Option.getD_some, Nat.add_sub_cancel, Nat.succ_ne_zero, if_false]

theorem bif_and (a b : Bool) : (bif a then b else false) = (a && b) := by cases a <;> rfl
theorem bif_or (a b : Bool) : (bif a then true else b) = (a || b) := by cases a <;> rfl

theorem knownB_drop (hs : List (Int × Int)) (k : Nat) (hk : k < hs.length) (i : Int) :
    knownB (hs.drop k) i = (!(decide ((hs.getD k (0, 0)).1 ≤ i) && decide (i < (hs.getD k (0, 0)).2)) && knownB (hs.drop (k + 1)) i) := by
  unfold knownB
  rw [List.drop_eq_getElem_cons hk, List.any_cons, Bool.not_or]
  simp only [List.getD_eq_getElem?_getD, List.getElem?_eq_getElem hk, Option.getD_some]

/-- A run: its name, its first place, its samples' words, its holes. -/
structure Rn where
  name : ByteArray
  first : Int
  smp : List Nat
  holes : List (Int × Int)
def floats (l : List Nat) : List Value := l.map (Value.float .f32)
theorem floats_len (l : List Nat) : (floats l).length = l.length := by simp [floats]
def RdR (w : World) (B : Nat) (vv hv : Value) (t : Rn) : Prop := Rd w B 1 vv t.smp.length (floats t.smp) ∧ Rd w B 2 hv t.holes.length (spans t.holes)
/-- Words as the content of a chunk. -/
def flC (l : List Nat) : Cont := .gen l.length 1 fun q => [.float .f32 (l.getD q 0)]
theorem flC_cells (l : List Nat) : (flC l).cells = (floats l).map AV.lit := by
  unfold flC floats
  simp only [Cont.cells, Nat.mul_one, Nat.div_one, Nat.mod_one, List.map_map]
  apply List.ext_getElem
  · simp
  · intro i h1 h2
    simp at h1 h2
    simp [List.getElem?_eq_getElem h1]

/-- Sixteen times a sample; a word cut to an integer. -/
def x16 (b : Nat) : Nat := (FloatKind.f32.format.mul b 1098907648).getD 0
def cutW (b : Nat) : Int := (fltToInt .f32 b .i64).getD 0
def ltW (a b : Nat) : Bool := FloatKind.f32.format.order a b == some .lt
def gtW (a b : Nat) : Bool := FloatKind.f32.format.order a b == some .gt
/-- The error of a sample. -/
def partS (b : Nat) : Int := if fin b = false then 1 else if (ltW b (FloatKind.f32.nearest (-1024)) || gtW b (FloatKind.f32.nearest 1024)) = true then 3 else whenS (!Op.floatEq .f32 (x16 b) (FloatKind.f32.nearest (cutW (x16 b)))) 3
/-- Whether a sample is not 0. -/
def nzF (b : Nat) : Int := if Op.floatEq .f32 b 0 = true then 0 else 1
def headR (r : Rn) : Int := firstS [whenS (!nameOk r.name) 8, withinS r.first 0 100000000, whenS (decide (4096 < (r.smp.length : Int))) 5]
def bodyR (r : Rn) : Int := firstS [firstS (r.smp.map partS), whenS (decide (100000000 < r.first + (r.smp.length : Int))) 4]
def runE (r : Rn) : Int :=
  if headR r ≠ 0 then headR r else if bodyR r ≠ 0 then bodyR r else
  if holesS r.smp.length (-1) r.holes ≠ 0 then holesS r.smp.length (-1) r.holes else formS (r.smp.map nzF) r.holes
theorem part_cut {b : Nat} (h : partS b = 0) : (FloatKind.f32.format.mul b 1098907648).isSome = true ∧ (fltToInt .f32 (x16 b) .i64).isSome = true := by
  unfold partS at h
  split at h
  · cases h
  · rename_i hf
    split at h
    · cases h
    · rename_i hr
      have hf : fin b = true := by cases e : fin b <;> simp_all
      simp only [Bool.or_eq_true, not_or, Bool.not_eq_true] at hr
      obtain ⟨r, h1, h2⟩ := times16 hf hr.1 hr.2
      unfold x16
      rw [h1]
      exact ⟨rfl, h2⟩
theorem part_cut' {b : Nat} (hf : fin b = true) (hr : (ltW b (FloatKind.f32.nearest (-1024)) || gtW b (FloatKind.f32.nearest 1024)) = false) : (FloatKind.f32.format.mul b 1098907648).isSome = true ∧ (fltToInt .f32 (x16 b) .i64).isSome = true := by
  simp only [Bool.or_eq_false_iff] at hr
  obtain ⟨r, h1, h2⟩ := times16 hf hr.1 hr.2
  unfold x16
  rw [h1]
  exact ⟨rfl, h2⟩

end Go.Proofs.YtoopgdchiljmiaaGreatDoor
