/- Contracts: CheckTrace. -/
import Derived.Test.YtbpffadffbgloaaGreatDoorA
set_option linter.unusedVariables false
set_option linter.unusedSimpArgs false
namespace Go.Proofs.YtbpffadffbgloaaGreatDoor
open Go.RowKit

/-- The data of a trace. -/
structure Tr where
  first : Int
  vals : List Int
  holes : List (Int × Int)

def spans (l : List (Int × Int)) : List Value := l.flatMap fun p => [.int .i64 p.1, .int .i64 p.2]
theorem spans_len (l : List (Int × Int)) : (spans l).length = l.length * 2 := by
  induction l with
  | nil => rfl
  | cons a l ih => simp only [spans, List.flatMap_cons, List.length_append, List.length_cons, List.length_nil] at ih ⊢; omega
theorem spans_append (a b : List (Int × Int)) : spans (a ++ b) = spans a ++ spans b := by simp [spans]
theorem spans_at (l : List (Int × Int)) (k : Nat) (h : k < l.length) : (spans l)[k * 2]? = some (.int .i64 l[k].1) ∧ (spans l)[k * 2 + 1]? = some (.int .i64 l[k].2) := by
  have e : l = l.take k ++ l[k] :: l.drop (k + 1) := by rw [List.getElem_cons_drop, List.take_append_drop]
  have hl : (spans (l.take k)).length = k * 2 := by rw [spans_len, List.length_take]; omega
  have e2 : spans l = spans (l.take k) ++ ([.int .i64 l[k].1, .int .i64 l[k].2] ++ spans (l.drop (k + 1))) := by
    conv => lhs; rw [e]
    rw [spans_append]; rfl
  rw [e2]
  constructor
  · rw [List.getElem?_append_right (by omega), hl]; simp
  · rw [List.getElem?_append_right (by omega), hl]; simp
theorem Rd.span_at {w : World} {B n : Nat} {A : Option Addr} {c : Nat} {l : List (Int × Int)} {k : Nat} (h : Rd w B 2 (.slice A n c) n (spans l)) (hk : k < l.length) :
    ∃ ad : Addr, A = some ad ∧ ad.block < B ∧ w.cell? (ad.add (k * 2)) = some (.int .i64 l[k].1) ∧ w.cell? ⟨(ad.add (k * 2)).block, (ad.add (k * 2)).off + 1, none⟩ = some (.int .i64 l[k].2) := by
  have h1 := h.1
  rw [spans_len] at h1
  obtain ⟨ad, e, hb, hc⟩ := h.at_ (by omega)
  exact ⟨ad, e, hb, hc _ _ (spans_at l k hk).1, by rw [← addr_succ (ad.add (k * 2)) 0, addr_add]; exact hc _ _ (spans_at l k hk).2⟩

/-- The lists of a trace lie in slices vv and hv, below B. -/
def RdT (w : World) (B : Nat) (vv hv : Value) (t : Tr) : Prop := Rd w B 1 vv t.vals.length (ints t.vals) ∧ Rd w B 2 hv t.holes.length (spans t.holes)
theorem RdT.below {w w' : World} {B : Nat} {vv hv : Value} {t : Tr} (h : RdT w B vv hv t) (hb : Below B w w') : RdT w' B vv hv t := ⟨h.1.below hb, h.2.below hb⟩
theorem RdT.more {w : World} {B B' : Nat} {vv hv : Value} {t : Tr} (h : RdT w B vv hv t) (hb : B ≤ B') : RdT w B' vv hv t := ⟨h.1.more hb, h.2.more hb⟩
/-- As a value. -/
def trv (f : Int) (vv hv : Value) : Value := .agg #[.int .i64 f, vv, hv]

theorem end_c (f : Int) (A : Option Addr) (n c : Nat) (hv : Value) (w : World) (h1 : n ≤ c) (h2 : c ≤ 9223372036854775807) :
    Calls Tryz.prog 61 #[.agg #[.int .i64 f, .slice A n c, hv]] w fun r w' => r = .returned (.int .i64 (wrap64 (f + n))) ∧ Below w.heap.size w w' := by
  go_enter Tryz.func61, Tryz.ntmps61
  go_wp2
  go_ret
  exact ⟨by simp, by (repeat (first | with_reducible exact Below.refl _ _ | with_reducible assumption | with_reducible exact And.left (by assumption) | with_reducible exact And.left (And.right (by assumption)) | with_reducible refine Below.setCell ?_ (by dsimp only; omega) _ | with_reducible refine Below.allocE ?_ _ | with_reducible refine Below.drew ?_ | exact Below.refl _ _ | assumption | exact And.left (by assumption) | exact And.left (And.right (by assumption)) | refine Below.drew ?_ | refine Below.allocE ?_ _ | refine Below.setCell ?_ (by dsimp only; omega) _))⟩

def NzAt (l : List Int) (w : World) (r : Ending) (w' : World) : Prop := (∃ k : Int, r = .returned (.int .i64 k) ∧ (0 ≤ k ↔ l.any (· != 0) = true)) ∧ w = w'
theorem indexNz_c (v : Value) (l : List Int) (w : World) (h : Rd w w.heap.size 1 v l.length (ints l)) :
    Calls Tryz.prog 143 #[v, .func (.func 114) #[] #[]] w (NzAt l w) := by
  obtain ⟨A, c, rfl, h1, h2⟩ := h.slice
  go_enter Tryz.func143, Tryz.ntmps143
  go_wp2
  go_loop [8] (fun i => ∃ k : Nat, k ≤ l.length ∧ i = .int .i64 k ∧ (l.take k).any (· != 0) = false) (fun i => l.length - (intOf i).toNat)
  case atStart => exact ⟨0, Nat.zero_le _, rfl, by simp⟩
  case round =>
    obtain ⟨k, hk, rfl, hf⟩ := hrel
    have H := Lib.hid hf; clear hf
    by_cases hlt : k < l.length
    · obtain ⟨ad, rfl, hb, hcell⟩ := h.int_at hlt
      clear h
      obtain ⟨x, hx⟩ : ∃ x, l[k] = x := ⟨_, rfl⟩
      rw [hx] at hcell
      have HX := Lib.hid hx; clear hx
      by_cases hx0 : x = 0
      · subst hx0
        go_wp2_with (go_at_call 114; refine (CheckTrace1_c _ _).mono ?_; rintro e w' ⟨rfl, rfl⟩)
        go_round
        case rel => exact ⟨k+1, by omega, by go_num, by rw [List.take_succ_eq_append_getElem hlt, List.any_append, H.out, HX.out]; rfl⟩
        case measure => simp [intOf]; omega
      · have hb1 : (x != 0) = true := by simpa using hx0
        go_wp2_with (go_at_call 114; refine (CheckTrace1_c _ _).mono ?_; rintro e w' ⟨rfl, rfl⟩)
        go_ret
        refine ⟨⟨k, rfl, ?_⟩, rfl⟩
        simp only [Int.natCast_nonneg, true_iff]
        rw [List.any_eq_true]
        exact ⟨l[k], List.getElem_mem hlt, by rw [HX.out]; exact hb1⟩
    · clear h
      go_wp2
      go_ret
      refine ⟨⟨-1, rfl, ?_⟩, rfl⟩
      have := H.out
      rw [List.take_of_length_le (by omega)] at this
      rw [this]; simp

theorem containsNz_c (v : Value) (l : List Int) (w : World) (h : Rd w w.heap.size 1 v l.length (ints l)) :
    Calls Tryz.prog 113 #[v, .func (.func 114) #[] #[]] w fun r w' => r = .returned (.bool (l.any (· != 0))) ∧ w = w' := by
  go_enter Tryz.func113, Tryz.ntmps113
  go_wp2_with fail
  refine (indexNz_c v l w h).mono ?_
  rintro e w' ⟨⟨k, rfl, hk⟩, rfl⟩
  have HK := Lib.hid hk; clear hk
  by_cases h0 : 0 ≤ k
  all_goals
    go_wp2
    go_ret
    refine ⟨ret_bool ?_, rfl⟩
  · exact (HK.out.1 h0).symm ▸ by simp [h0]
  · have := HK.out
    cases hh : l.any (· != 0)
    · simp; omega
    · exact absurd (this.2 hh) (by omega)

def spanS (n : Int) (h : Int × Int) : Int := whenS (decide (h.1 < 0) || decide (h.2 ≤ h.1) || decide (n < h.2)) 14
def holeS (n last : Int) (h : Int × Int) : Int := firstS [spanS n h, whenS (decide (h.1 ≤ last)) 11]
def holesS (n : Int) : Int → List (Int × Int) → Int
  | _, [] => 0
  | last, h :: l => if holeS n last h ≠ 0 then holeS n last h else holesS n h.2 l
def formS (l : List Int) : List (Int × Int) → Int
  | [] => 0
  | h :: r => if ((l.drop h.1.toNat).take (h.2 - h.1).toNat).any (· != 0) then 1 else formS l r
def headS (f : Int) (l : List Int) : Int := firstS [withinS f 0 100000000, whenS (decide (4096 < (l.length : Int))) 5]
def bodyS (f : Int) (l : List Int) : Int := firstS [whenS (decide (100000000 < f + (l.length : Int))) 4, firstS (l.map readingS)]
def traceS (t : Tr) : Int :=
  if headS t.first t.vals ≠ 0 then headS t.first t.vals else if bodyS t.first t.vals ≠ 0 then bodyS t.first t.vals else
  if holesS t.vals.length (-1) t.holes ≠ 0 then holesS t.vals.length (-1) t.holes else formS t.vals t.holes
theorem withinS_eq (n lo hi : Int) : withinS n lo hi = 0 ↔ lo ≤ n ∧ n ≤ hi := by unfold withinS; split <;> omega
theorem whenS_eq (b : Bool) (e : Int) (he : e ≠ 0) : whenS b e = 0 ↔ b = false := by cases b <;> simp [whenS, he]
theorem firstS_eq (l : List Int) : firstS l = 0 ↔ ∀ x ∈ l, x = 0 := by
  induction l with
  | nil => simp [firstS]
  | cons a l ih => unfold firstS; by_cases h : a = 0 <;> simp [h, ih]

end Go.Proofs.YtbpffadffbgloaaGreatDoor
