/- Chapter 9: integers, sums, quotients: the program's and the reference's. -/
import Derived.Test.YtlhgddgoblliaaaGreatDoorPa
set_option linter.unusedVariables false
set_option linter.unusedSimpArgs false
namespace Go.Proofs.YtlhgddgoblliaaaGreatDoor
open Go.RowKit Go.Sym

def LInts_i (l : List Int) (σ : Ren) : Inst := { f := 11, hin := [(0, .ro l.length 1 (.ints .i64 l))], args := [.sl 0 l.length], hout := [(1, .row 3 l.length 1 (.ints .i64 l))], ret := .sl 1 l.length, σ := σ }
theorem LInts_s (l : List Int) (σ : Ren) (h1 : l.length ≤ 1000000) : (LInts_i l σ).ok Tryz.prog := by
  unfold LInts_i Inst.ok; dsimp only; refine spec_of_body (tys := tys) 1 Tryz.func11 (by kernel_rfl) rfl tys_ok rfl (Nat.le_of_ble_eq_true rfl) (fun _ _ h => (by cases h)) fun F hP hm hC hrd => ?_; conv => whnf
  repeat first | refine lwp_seq fun K hK => ?_ | ((with_reducible refine gA ?_); apply_assumption -exfalso -symm) | refine gB ?_ | refine gC ?_ | refine gD ?_ | refine gE ?_ | refine gF rfl ?_ | refine gG rfl ?_ | refine gH ?_ | refine gI ?_ | refine gJ ?_ | refine gK ?_ | refine gL ?_ | refine gM hC rfl ⟨⟩ ?_ | refine gM hC rfl (by exact sd) ?_
  (refine end_intro (by first | exact .inr rfl | exact .inl rfl) [(1, some 2)] rfl ?_)
  exact sd
/-! Sums. -/
/-! Lifts. -/
def rangeL (lo hi : Int) (l : List Int) : List Int := l.map fun x => withinS x lo hi
theorem rangeL_take (lo hi : Int) (l : List Int) (k : Nat) (h : k < l.length) : rangeL lo hi (l.take (k + 1)) = rangeL lo hi (l.take k) ++ [withinS (l.getD k 0) lo hi] := by
  rw [take_snoc l 0 k h]; simp [rangeL]
theorem rangeL_len (lo hi : Int) (l : List Int) : (rangeL lo hi l).length = l.length := by simp [rangeL]
theorem rangeL_drop (lo hi : Int) (l : List Int) (k : Nat) (h : k < l.length) : firstS ((rangeL lo hi l).drop k) = if withinS (l.getD k 0) lo hi = 0 then firstS ((rangeL lo hi l).drop (k + 1)) else withinS (l.getD k 0) lo hi := by
  rw [List.drop_eq_getElem_cons (by rw [rangeL_len]; exact h)]
  simp only [firstS, rangeL, List.getElem_map, List.getD_eq_getElem?_getD, List.getElem?_eq_getElem h, Option.getD_some]
theorem rangeL_zero {lo hi : Int} {l : List Int} (h : firstS (rangeL lo hi l) = 0) : ∀ x ∈ l, lo ≤ x ∧ x ≤ hi := by
  induction l with
  | nil => intro x hx; cases hx
  | cons a l ih =>
    have h1 := (firstS_cons _ _).1 h
    intro x hx
    rcases List.mem_cons.1 hx with rfl | hx
    · exact withinS_zero.1 h1.1
    · exact ih h1.2 x hx
def RRanges_i (lo hi : Int) (l : List Int) (σ : Ren) : Inst := { f := 67, hin := [(0, .ro l.length 1 (.ints .i64 l))], args := [.sl 0 l.length, i64 lo, i64 hi], hout := [], ret := i64 (firstS (rangeL lo hi l)), σ := σ }
theorem RRanges_s (lo hi : Int) (l : List Int) (σ : Ren) (hl : l.length ≤ 1000000) : (RRanges_i lo hi l σ).ok Tryz.prog := by
  unfold RRanges_i Inst.ok; dsimp only; refine spec_of_body (tys := tys) 1 Tryz.func67 (by kernel_rfl) rfl tys_ok rfl (Nat.le_of_ble_eq_true rfl) (fun _ _ h => (by cases h)) fun F hP hm hC hrd => ?_; conv => whnf
  repeat first | refine lwp_seq fun K hK => ?_ | ((with_reducible refine gA ?_); apply_assumption -exfalso -symm) | refine gB ?_ | refine gC ?_ | refine gD ?_ | refine gE ?_ | refine gF rfl ?_ | refine gG rfl ?_ | refine gH ?_ | refine gI ?_ | refine gJ ?_ | refine gK ?_ | refine gL ?_ | refine gM hC rfl ⟨⟩ ?_ | refine gM hC rfl (by exact sd) ?_
  refine lwp_loop (fun k : Nat => ⟨[(7, i64 k), (0, .sl 0 l.length), (1, i64 lo), (2, i64 hi)], [(0, .ro l.length 1 (.ints .i64 l))], 1⟩) (fun k => k ≤ l.length ∧ firstS (rangeL lo hi l) = firstS ((rangeL lo hi l).drop k)) (fun k => l.length - k) 0 ⟨?_, sub_intro hm [(0, some 0)] rfl ?_⟩ ?_
  · exact ⟨Nat.zero_le _, rfl⟩
  · exact sd
  · rintro k ⟨hk, hf⟩
    repeat first | refine lwp_seq fun K hK => ?_ | ((with_reducible refine gA ?_); apply_assumption -exfalso -symm) | refine gB ?_ | refine gC ?_ | refine gD ?_ | refine gE ?_ | refine gF rfl ?_ | refine gG rfl ?_ | refine gH ?_ | refine gI ?_ | refine gJ ?_ | refine gK ?_ | refine gL ?_ | refine gM hC rfl ⟨⟩ ?_ | refine gM hC rfl (by exact sd) ?_
    (refine lwp_cond hC rfl (by first | exact ⟨⟩ | exact sd) (fun hb => ?_) (fun hb => ?_) <;> (try simp only [decide_eq_true_eq, decide_eq_false_iff_not, Bool.not_eq_true', Bool.not_eq_false', ne_eq, Decidable.not_not] at hb))
    · have hd := rangeL_drop lo hi l k (by omega)
      have hkk : ((k : Int)).toNat = k := Int.toNat_natCast k
      repeat first | refine lwp_seq fun K hK => ?_ | ((with_reducible refine gA ?_); apply_assumption -exfalso -symm) | refine gB ?_ | refine gC ?_ | refine gD ?_ | refine gE ?_ | refine gF rfl ?_ | refine gG rfl ?_ | refine gH ?_ | refine gI ?_ | refine gJ ?_ | refine gK ?_ | refine gL ?_ | refine gM hC rfl ⟨⟩ ?_
      (refine lwp_region hC ⟨[], [], [(6, CheckRange_i (l.getD k 0) lo hi)]⟩ (told1 _ (by rw [hP]; exact (calls_cons (CheckRange_s _ _ _) calls_nil))) rfl ?_ ?_; rotate_left 1)
      · repeat first | refine lwp_seq fun K hK => ?_ | ((with_reducible refine gA ?_); apply_assumption -exfalso -symm) | refine gB ?_ | refine gC ?_ | refine gD ?_ | refine gE ?_ | refine gF rfl ?_ | refine gG rfl ?_ | refine gH ?_ | refine gI ?_ | refine gJ ?_ | refine gK ?_ | refine gL ?_ | refine gM hC rfl ⟨⟩ ?_ | refine gM hC rfl (by exact sd) ?_
        (refine lwp_cond hC rfl (by first | exact ⟨⟩ | exact sd) (fun hb => ?_) (fun hb => ?_) <;> (try simp only [decide_eq_true_eq, decide_eq_false_iff_not, Bool.not_eq_true', Bool.not_eq_false', ne_eq, Decidable.not_not] at hb))
        · repeat first | refine lwp_seq fun K hK => ?_ | ((with_reducible refine gA ?_); apply_assumption -exfalso -symm) | refine gB ?_ | refine gC ?_ | refine gD ?_ | refine gE ?_ | refine gF rfl ?_ | refine gG rfl ?_ | refine gH ?_ | refine gI ?_ | refine gJ ?_ | refine gK ?_ | refine gL ?_ | refine gM hC rfl ⟨⟩ ?_ | refine gM hC rfl (by exact sd) ?_
          (refine end_intro (by first | exact .inr rfl | exact .inl rfl) [] rfl ?_)
          rw [hf, hd, if_neg hb]
          exact ⟨rfl, trivial⟩
        · repeat first | refine lwp_seq fun K hK => ?_ | ((with_reducible refine gA ?_); apply_assumption -exfalso -symm) | refine gB ?_ | refine gC ?_ | refine gD ?_ | refine gE ?_ | refine gF rfl ?_ | refine gG rfl ?_ | refine gH ?_ | refine gI ?_ | refine gJ ?_ | refine gK ?_ | refine gL ?_ | refine gM hC rfl ⟨⟩ ?_ | refine gM hC rfl (by exact sd) ?_
          refine gA ⟨k + 1, ?_, ?_, sub_intro hm [(0, some 0)] rfl ?_⟩
          · exact ⟨by omega, by rw [hf, hd, if_pos hb]⟩
          · omega
          · exact sd
      · rw [hkk]; exact sd
    · repeat first | refine lwp_seq fun K hK => ?_ | ((with_reducible refine gA ?_); apply_assumption -exfalso -symm) | refine gB ?_ | refine gC ?_ | refine gD ?_ | refine gE ?_ | refine gF rfl ?_ | refine gG rfl ?_ | refine gH ?_ | refine gI ?_ | refine gJ ?_ | refine gK ?_ | refine gL ?_ | refine gM hC rfl ⟨⟩ ?_ | refine gM hC rfl (by exact sd) ?_
      (refine end_intro (by first | exact .inr rfl | exact .inl rfl) [] rfl ?_)
      rw [hf, List.drop_of_length_le (by rw [rangeL_len]; omega)]
      exact ⟨rfl, trivial⟩

/-! Divisors. -/
/-! Quotients. -/
end Go.Proofs.YtlhgddgoblliaaaGreatDoor
