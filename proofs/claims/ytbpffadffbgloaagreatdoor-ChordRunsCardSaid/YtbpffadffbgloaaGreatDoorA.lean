/- Contracts: the small checks of chord. -/
import Derived.Test.YtbpffadffbgloaaGreatDoorChecked
import Derived.Test.YtbpffadffbgloaaGreatDoorLib
set_option linter.unusedVariables false
set_option linter.unusedSimpArgs false
namespace Go.Proofs.YtbpffadffbgloaaGreatDoor
open Go.RowKit

def whenS (b : Bool) (e : Int) : Int := if b then e else 0
theorem when_c (b : Bool) (e : Int) (w : World) :
    Calls Tryz.prog 60 #[.bool b, .int .i64 e] w fun r w' => r = .returned (.int .i64 (whenS b e)) ∧ w = w' := by
  cases b
  all_goals
    go_enter Tryz.func60, Tryz.ntmps60
    go_wp2
    go_ret
    exact ⟨rfl, rfl⟩

def withinS (n lo hi : Int) : Int := if n < lo ∨ n > hi then 3 else 0
theorem within_c (n lo hi : Int) (w : World) :
    Calls Tryz.prog 58 #[.int .i64 n, .int .i64 lo, .int .i64 hi] w fun r w' => r = .returned (.int .i64 (withinS n lo hi)) ∧ w = w' := by
  by_cases h1 : n < lo
  all_goals
    go_enter Tryz.func58, Tryz.ntmps58
    go_wp2_with (go_at_call 60; refine (when_c _ _ _).mono ?_; rintro e w' ⟨rfl, rfl⟩)
  all_goals go_ret
  all_goals refine ⟨?_, rfl⟩
  all_goals (simp [withinS, whenS, *]; try omega)

def firstS : List Int → Int
  | [] => 0
  | e :: l => if e = 0 then firstS l else e
theorem firstS_drop (l : List Int) (k : Nat) (hk : k < l.length) (h : l[k] = 0) : firstS (l.drop k) = firstS (l.drop (k+1)) := by
  rw [List.drop_eq_getElem_cons hk]; simp [firstS, h]
theorem first_c (v : Value) (l : List Int) (w : World) (h : Rd w w.heap.size 1 v l.length (ints l)) :
    Calls Tryz.prog 56 #[v] w fun r w' => r = .returned (.int .i64 (firstS l)) ∧ w = w' := by
  obtain ⟨A, c, rfl, h1, h2⟩ := h.slice
  go_enter Tryz.func56, Tryz.ntmps56
  go_wp2
  go_loop [7] (fun i => ∃ k : Nat, k ≤ l.length ∧ i = .int .i64 k ∧ firstS l = firstS (l.drop k)) (fun i => l.length - (intOf i).toNat)
  case atStart => exact ⟨0, Nat.zero_le _, rfl, rfl⟩
  case round =>
    obtain ⟨k, hk, rfl, hf⟩ := hrel
    by_cases hlt : k < l.length
    · obtain ⟨ad, rfl, hb, hcell⟩ := h.int_at hlt
      have H := Lib.hid hf; clear hf h
      obtain ⟨x, hx⟩ : ∃ x, l[k] = x := ⟨_, rfl⟩
      rw [hx] at hcell
      have HX := Lib.hid hx; clear hx
      by_cases hx0 : x = 0
      · subst hx0
        go_wp2
        go_round
        case rel => exact ⟨k+1, by omega, by go_num, by rw [H.out, firstS_drop l k hlt HX.out]⟩
        case measure => simp [intOf]; omega
      · go_wp2
        go_ret
        exact ⟨by rw [H.out, List.drop_eq_getElem_cons hlt, HX.out]; simp [firstS, hx0], rfl⟩
    · have H := Lib.hid hf; clear hf h
      go_wp2
      go_ret
      exact ⟨by rw [H.out, List.drop_of_length_le (by omega)]; rfl, rfl⟩

def readingS (n : Int) : Int := withinS n (-1073741824) 1073741824
theorem checkReading_c (n : Int) (w : World) :
    Calls Tryz.prog 76 #[.int .i64 n] w fun r w' => r = .returned (.int .i64 (readingS n)) ∧ w = w' := by
  go_enter Tryz.func76, Tryz.ntmps76
  go_wp2_with (go_at_call 58; refine (within_c _ _ _ _).mono ?_; rintro e w' ⟨rfl, rfl⟩)
  go_ret
  exact ⟨rfl, rfl⟩

def chordS (b a : Int) : Int := firstS [withinS b 1 32, withinS a 1 32]
theorem CheckChord_c (b a : Int) (w : World) :
    Calls Tryz.prog 74 #[.agg #[.int .i64 b, .int .i64 a]] w fun r w' => r = .returned (.int .i64 (chordS b a)) ∧ Below w.heap.size w w' := by
  go_enter Tryz.func74, Tryz.ntmps74
  go_wp2
  go_region_held3 (fun w' => Below w.heap.size w w' ∧ w'.cell? ⟨w.heap.size, 0, none⟩ = some (.int .i64 b) ∧ w'.cell? ⟨w.heap.size, 1, none⟩ = some (.int .i64 a)) (((repeat' apply And.intro) <;> first | go_keep  | (repeat (first | with_reducible exact Below.refl _ _ | with_reducible assumption | with_reducible exact And.left (by assumption) | with_reducible exact And.left (And.right (by assumption)) | with_reducible refine Below.setCell ?_ (by dsimp only; omega) _ | with_reducible refine Below.allocE ?_ _ | with_reducible refine Below.drew ?_ | exact Below.refl _ _ | assumption | exact And.left (by assumption) | exact And.left (And.right (by assumption)) | refine Below.drew ?_ | refine Below.allocE ?_ _ | refine Below.setCell ?_ (by dsimp only; omega) _)))) (first | (go_at_call 58; refine (within_c _ _ _ _).mono ?_; rintro e w' ⟨rfl, rfl⟩) | (go_at_call 56; refine (first_c _ [withinS b 1 32, withinS a 1 32] _ ?_).mono ?_; exact Rd.fresh (w.alloc _) _ _ _ (by simp) (by simp) (by simp); rintro e w' ⟨rfl, rfl⟩))
  go_wp2
  go_ret
  exact ⟨rfl, by (repeat (first | with_reducible exact Below.refl _ _ | with_reducible assumption | with_reducible exact And.left (by assumption) | with_reducible exact And.left (And.right (by assumption)) | with_reducible refine Below.setCell ?_ (by dsimp only; omega) _ | with_reducible refine Below.allocE ?_ _ | with_reducible refine Below.drew ?_ | exact Below.refl _ _ | assumption | exact And.left (by assumption) | exact And.left (And.right (by assumption)) | refine Below.drew ?_ | refine Below.allocE ?_ _ | refine Below.setCell ?_ (by dsimp only; omega) _))⟩

def waveS (n : Int) : Int := withinS n (-16384) 16384
theorem checkWave1_c (n : Int) (w : World) :
    Calls Tryz.prog 112 #[.int .i64 n] w fun r w' => r = .returned (.int .i64 (waveS n)) ∧ w = w' := by
  go_enter Tryz.func112, Tryz.ntmps112
  go_wp2_with (go_at_call 58; refine (within_c _ _ _ _).mono ?_; rintro e w' ⟨rfl, rfl⟩)
  go_ret
  exact ⟨rfl, rfl⟩
theorem CheckTrace1_c (n : Int) (w : World) :
    Calls Tryz.prog 114 #[.int .i64 n] w fun r w' => r = .returned (.bool (n != 0)) ∧ w = w' := by
  go_enter Tryz.func114, Tryz.ntmps114
  go_wp2
  go_ret
  exact ⟨by simp, rfl⟩

theorem infoErr : (Tryz.prog.info? 30).map (fun i => (i.zero, i.size, i.bytes)) = some (some (.int .i64 0), 1, 8) := by kernel_rfl
theorem mapped_reading_c (v : Value) (l : List Int) (w : World) (h : Rd w w.heap.size 1 v l.length (ints l)) (hl : l.length ≤ 1048576) :
    Calls Tryz.prog 75 #[v, .func (.func 76) #[] #[]] w fun r w' => ∃ u, r = .returned u ∧
      w'.ownsRow w.heap.size 30 1 u (l.map readingS).length (ints (l.map readingS)) ∧ Below w.heap.size w w' ∧ (l = [] → u = .slice none 0 0) := by
  obtain ⟨i0, hi, hz0, hz1, hz2⟩ := info_parts infoErr
  obtain ⟨A, c, rfl, h1, h2⟩ := h.slice
  go_enter Tryz.func75, Tryz.ntmps75
  go_wp2
  go_loopw [5, 10] (fun o i wr => ∃ k : Nat, k ≤ l.length ∧ i = .int .i64 k ∧ wr.ownsRow w.heap.size 30 1 o k (ints ((l.take k).map readingS)) ∧ Below w.heap.size w wr ∧ (k = 0 → o = .slice none 0 0)) (fun _ i _ => l.length - (intOf i).toNat)
  case atStart => exact ⟨0, Nat.zero_le _, rfl, World.ownsRow_nil _ _ _ _, Below.refl _ _, fun _ => rfl⟩
  case round =>
    obtain ⟨k, hk, rfl, hown, hB, hnil⟩ := hrel
    have HN := Lib.hid hnil; clear hnil
    by_cases hlt : k < l.length
    · obtain ⟨ad, rfl, hb, hcell⟩ := (h.below hB).int_at hlt
      obtain ⟨x, hx⟩ : ∃ x, l[k] = x := ⟨_, rfl⟩
      rw [hx] at hcell
      have HX := Lib.hid hx; clear hx
      go_wp2_with (first
        | (go_at_call 76; refine (checkReading_c _ _).mono ?_; rintro e w' ⟨rfl, rfl⟩)
        | (at_builtin; refine wpList_append_own _ rfl _ _ 129 rfl w.heap.size 30 i0 (.int .i64 0) 1 8 Tryz.underlying129 hi hz0 hz1 hz2 rfl (by decide) _ _ _ rfl (hown.alloc _) ⟨wr.heap.size, 0, none⟩ 1 1 [.int .i64 (readingS x)] rfl rfl (cell_one_new _ _ _) (by simp [Value.oneCell']) (by unfold maxLen; omega) (by omega) (by have := hB.size; simp; omega) ?_; intro v' w1 hown' hgrow _))
      have e1 : (l.take (k+1)).map readingS = (l.take k).map readingS ++ [readingS x] := by rw [List.take_succ_eq_append_getElem hlt, HX.out]; simp
      have hB1 : Below w.heap.size w w1 := (hB.alloc hB.size _).grown hgrow (by have := hB.size; simp; omega) (fun g hg => own_base hown hg)
      go_roundw
      case rel => exact ⟨k+1, by omega, by go_num, by rw [e1, ints_snoc]; exact hown', hB1, fun h => by omega⟩
      case measure => simp [intOf]; omega
    · go_wp2
      go_ret
      obtain rfl : k = l.length := by omega
      rw [List.take_length] at hown
      exact ⟨_, rfl, by rw [List.length_map]; exact hown, hB, fun h => HN.out (by simp [h])⟩

theorem mapped_wave_c (v : Value) (l : List Int) (w : World) (h : Rd w w.heap.size 1 v l.length (ints l)) (hl : l.length ≤ 1048576) :
    Calls Tryz.prog 75 #[v, .func (.func 112) #[] #[]] w fun r w' => ∃ u, r = .returned u ∧
      w'.ownsRow w.heap.size 30 1 u (l.map waveS).length (ints (l.map waveS)) ∧ Below w.heap.size w w' ∧ (l = [] → u = .slice none 0 0) := by
  obtain ⟨i0, hi, hz0, hz1, hz2⟩ := info_parts infoErr
  obtain ⟨A, c, rfl, h1, h2⟩ := h.slice
  go_enter Tryz.func75, Tryz.ntmps75
  go_wp2
  go_loopw [5, 10] (fun o i wr => ∃ k : Nat, k ≤ l.length ∧ i = .int .i64 k ∧ wr.ownsRow w.heap.size 30 1 o k (ints ((l.take k).map waveS)) ∧ Below w.heap.size w wr ∧ (k = 0 → o = .slice none 0 0)) (fun _ i _ => l.length - (intOf i).toNat)
  case atStart => exact ⟨0, Nat.zero_le _, rfl, World.ownsRow_nil _ _ _ _, Below.refl _ _, fun _ => rfl⟩
  case round =>
    obtain ⟨k, hk, rfl, hown, hB, hnil⟩ := hrel
    have HN := Lib.hid hnil; clear hnil
    by_cases hlt : k < l.length
    · obtain ⟨ad, rfl, hb, hcell⟩ := (h.below hB).int_at hlt
      obtain ⟨x, hx⟩ : ∃ x, l[k] = x := ⟨_, rfl⟩
      rw [hx] at hcell
      have HX := Lib.hid hx; clear hx
      go_wp2_with (first
        | (go_at_call 112; refine (checkWave1_c _ _).mono ?_; rintro e w' ⟨rfl, rfl⟩)
        | (at_builtin; refine wpList_append_own _ rfl _ _ 129 rfl w.heap.size 30 i0 (.int .i64 0) 1 8 Tryz.underlying129 hi hz0 hz1 hz2 rfl (by decide) _ _ _ rfl (hown.alloc _) ⟨wr.heap.size, 0, none⟩ 1 1 [.int .i64 (waveS x)] rfl rfl (cell_one_new _ _ _) (by simp [Value.oneCell']) (by unfold maxLen; omega) (by omega) (by have := hB.size; simp; omega) ?_; intro v' w1 hown' hgrow _))
      have e1 : (l.take (k+1)).map waveS = (l.take k).map waveS ++ [waveS x] := by rw [List.take_succ_eq_append_getElem hlt, HX.out]; simp
      have hB1 : Below w.heap.size w w1 := (hB.alloc hB.size _).grown hgrow (by have := hB.size; simp; omega) (fun g hg => own_base hown hg)
      go_roundw
      case rel => exact ⟨k+1, by omega, by go_num, by rw [e1, ints_snoc]; exact hown', hB1, fun h => by omega⟩
      case measure => simp [intOf]; omega
    · go_wp2
      go_ret
      obtain rfl : k = l.length := by omega
      rw [List.take_length] at hown
      exact ⟨_, rfl, by rw [List.length_map]; exact hown, hB, fun h => HN.out (by simp [h])⟩

end Go.Proofs.YtbpffadffbgloaaGreatDoor
