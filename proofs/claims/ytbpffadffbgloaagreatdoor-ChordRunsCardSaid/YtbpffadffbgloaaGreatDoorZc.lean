/- Runs: what the checks say of them. -/
import Derived.Test.YtbpffadffbgloaaGreatDoorZa
import Derived.Test.YtbpffadffbgloaaGreatDoorZb
import Derived.Test.YtbpffadffbgloaaGreatDoorRk
set_option linter.unusedVariables false
set_option linter.unusedSimpArgs false
namespace Go.Proofs.YtbpffadffbgloaaGreatDoor
open Go.RowKit Go.Sym

/-- A run: its name, its first place, its samples' words, its holes. -/
structure Rn where
  name : ByteArray
  first : Int
  smp : List Nat
  holes : List (Int × Int)
def floats (l : List Nat) : List Value := l.map (Value.float .f32)
theorem floats_len (l : List Nat) : (floats l).length = l.length := by simp [floats]
def RdR (w : World) (B : Nat) (vv hv : Value) (t : Rn) : Prop := Rd w B 1 vv t.smp.length (floats t.smp) ∧ Rd w B 2 hv t.holes.length (spans t.holes)
/-- Words as the content of a chunk. -/
def flC (l : List Nat) : Cont := .gen l.length 1 fun q => [.float .f32 (l.getD q 0)]
theorem flC_cells (l : List Nat) : (flC l).cells = (floats l).map AV.lit := by
  unfold flC floats
  simp only [Cont.cells, Nat.mul_one, Nat.div_one, Nat.mod_one, List.map_map]
  apply List.ext_getElem
  · simp
  · intro i h1 h2
    simp at h1 h2
    simp [List.getElem?_eq_getElem h1]

/-- Sixteen times a sample; a word cut to an integer. -/
def x16 (b : Nat) : Nat := (FloatKind.f32.format.mul b 1098907648).getD 0
def cutW (b : Nat) : Int := (fltToInt .f32 b .i64).getD 0
def ltW (a b : Nat) : Bool := FloatKind.f32.format.order a b == some .lt
def gtW (a b : Nat) : Bool := FloatKind.f32.format.order a b == some .gt
/-- The error of a sample. -/
def partS (b : Nat) : Int := if fin b = false then 1 else if (ltW b (FloatKind.f32.nearest (-1024)) || gtW b (FloatKind.f32.nearest 1024)) = true then 3 else whenS (!Op.floatEq .f32 (x16 b) (FloatKind.f32.nearest (cutW (x16 b)))) 3
/-- Whether a sample is not 0. -/
def nzF (b : Nat) : Int := if Op.floatEq .f32 b 0 = true then 0 else 1
def headR (r : Rn) : Int := firstS [whenS (!nameOk r.name) 8, withinS r.first 0 100000000, whenS (decide (4096 < (r.smp.length : Int))) 5]
def bodyR (r : Rn) : Int := firstS [firstS (r.smp.map partS), whenS (decide (100000000 < r.first + (r.smp.length : Int))) 4]
def runE (r : Rn) : Int :=
  if headR r ≠ 0 then headR r else if bodyR r ≠ 0 then bodyR r else
  if holesS r.smp.length (-1) r.holes ≠ 0 then holesS r.smp.length (-1) r.holes else formS (r.smp.map nzF) r.holes
/-- The trace of a run. -/
def tracedS (r : Rn) : Tr := ⟨r.first, r.smp.map fun b => cutW (x16 b), r.holes⟩

theorem part_cut {b : Nat} (h : partS b = 0) : (FloatKind.f32.format.mul b 1098907648).isSome = true ∧ (fltToInt .f32 (x16 b) .i64).isSome = true := by
  unfold partS at h
  split at h
  · cases h
  · rename_i hf
    split at h
    · cases h
    · rename_i hr
      have hf : fin b = true := by cases e : fin b <;> simp_all
      simp only [Bool.or_eq_true, not_or, Bool.not_eq_true] at hr
      obtain ⟨r, h1, h2⟩ := times16 hf hr.1 hr.2
      unfold x16
      rw [h1]
      exact ⟨rfl, h2⟩
theorem part_cut' {b : Nat} (hf : fin b = true) (hr : (ltW b (FloatKind.f32.nearest (-1024)) || gtW b (FloatKind.f32.nearest 1024)) = false) : (FloatKind.f32.format.mul b 1098907648).isSome = true ∧ (fltToInt .f32 (x16 b) .i64).isSome = true := by
  simp only [Bool.or_eq_false_iff] at hr
  obtain ⟨r, h1, h2⟩ := times16 hf hr.1 hr.2
  unfold x16
  rw [h1]
  exact ⟨rfl, h2⟩

end Go.Proofs.YtbpffadffbgloaaGreatDoor
