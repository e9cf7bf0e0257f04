/- Chapter 5: Guess, the program's. -/
import Derived.Test.YtoopgdchiljmiaaGreatDoorEj
import Derived.Test.YtoopgdchiljmiaaGreatDoorEb
set_option linter.unusedVariables false
set_option linter.unusedSimpArgs false
namespace Go.Proofs.YtoopgdchiljmiaaGreatDoor
open Go.RowKit Go.Sym

def guessE (m s : List Th) (n : Int) (l : List (Int × Int)) : Int := firstS [checkPairsS m s l, withinS n 0 100000000, whenS (decide ((l.length : Int) = 0)) 12]
def guessR (m s : List Th) (n : Int) (l : List (Int × Int)) : Int := if guessE m s n l ≠ 0 then 0 else guessS m s n l (-1, -1)
theorem guessE_zero {m s : List Th} {n : Int} {l : List (Int × Int)} (h : guessE m s n l = 0) : Good m s l ∧ (0 ≤ n ∧ n ≤ 100000000) ∧ 0 < l.length := by
  unfold guessE at h
  rw [firstS_cons, firstS_cons, firstS_cons, withinS_zero, whenS_zero (by decide)] at h
  obtain ⟨h1, h3, h4, _⟩ := h
  have := of_decide_eq_false h4
  exact ⟨good_of h1, h3, by omega⟩
def Guess_i (m s : List Th) (n : Int) (l : List (Int × Int)) (σ : Ren) : Inst := { f := 65, hin := costIn m s l, args := [rdA m s, .sl 2 l.length, i64 n], hout := [], ret := .tup [i64 (guessR m s n l), i64 (guessE m s n l)], σ := σ }
set_option maxRecDepth 20000 in
set_option maxHeartbeats 4000000 in
theorem Guess_s (m s : List Th) (n : Int) (l : List (Int × Int)) (σ : Ren) (hm' : m.length ≤ 1000000) (hs : s.length ≤ 1000000) (hl : l.length ≤ 1000000) : (Guess_i m s n l σ).ok Tryz.prog := by
  unfold Guess_i Inst.ok; dsimp only; refine spec_of_body (tys := tys) 3 Tryz.func65 (by kernel_rfl) rfl tys_ok rfl (Nat.le_of_ble_eq_true rfl) (fun _ _ h => (by cases h)) fun F hP hm hC hrd => ?_; conv => whnf
  repeat first | refine lwp_seq fun K hK => ?_ | ((with_reducible refine gA ?_); apply_assumption -exfalso -symm) | refine gB ?_ | refine gC ?_ | refine gD ?_ | refine gE ?_ | refine gF rfl ?_ | refine gG rfl ?_ | refine gH ?_ | refine gI ?_ | refine gJ ?_ | refine gK ?_ | refine gL ?_ | refine lwp_region hC ⟨[], [], []⟩ (told0 _ _) rfl ⟨⟩ ?_ | refine lwp_region hC ⟨[], [], []⟩ (told0 _ _) rfl (by exact sd) ?_
  (refine lwp_region hC ⟨[], [], [(2, Pairs_i m s l [(0, some 0), (1, some 1), (2, some 2)]), (4, Count_i n), (8, AWhen_i (decide ((l.length : Int) = 0)) 12), (10, AFirst_i [checkPairsS m s l, withinS n 0 100000000, whenS (decide ((l.length : Int) = 0)) 12] [(0, some 4)])]⟩ (told1 _ (by rw [hP]; exact (calls_cons (Pairs_s _ _ _ _ hm' hs hl) (calls_cons (Count_s _) (calls_cons (AWhen_s _ _) (calls_cons (AFirst_s _ _ (by simp)) calls_nil)))))) rfl ?_ ?_; rotate_left 1)
  · repeat first | refine lwp_seq fun K hK => ?_ | ((with_reducible refine gA ?_); apply_assumption -exfalso -symm) | refine gB ?_ | refine gC ?_ | refine gD ?_ | refine gE ?_ | refine gF rfl ?_ | refine gG rfl ?_ | refine gH ?_ | refine gI ?_ | refine gJ ?_ | refine gK ?_ | refine gL ?_ | refine lwp_region hC ⟨[], [], []⟩ (told0 _ _) rfl ⟨⟩ ?_ | refine lwp_region hC ⟨[], [], []⟩ (told0 _ _) rfl (by exact sd) ?_
    (refine lwp_cond hC rfl (by first | exact ⟨⟩ | exact sd) (fun hb => ?_) (fun hb => ?_) <;> (try simp only [decide_eq_true_eq, decide_eq_false_iff_not, Bool.not_eq_true', Bool.not_eq_false', ne_eq, Decidable.not_not] at hb))
    · have hE : guessR m s n l = 0 := if_pos hb
      repeat first | refine lwp_seq fun K hK => ?_ | ((with_reducible refine gA ?_); apply_assumption -exfalso -symm) | refine gB ?_ | refine gC ?_ | refine gD ?_ | refine gE ?_ | refine gF rfl ?_ | refine gG rfl ?_ | refine gH ?_ | refine gI ?_ | refine gJ ?_ | refine gK ?_ | refine gL ?_ | refine lwp_region hC ⟨[], [], []⟩ (told0 _ _) rfl ⟨⟩ ?_ | refine lwp_region hC ⟨[], [], []⟩ (told0 _ _) rfl (by exact sd) ?_
      (refine end_intro (by first | exact .inr rfl | exact .inl rfl) [] rfl ?_)
      rw [hE]
      exact ⟨rfl, rfl, trivial⟩
    · have hz : guessE m s n l = 0 := hb
      have hE : guessR m s n l = guessS m s n l (-1, -1) := by unfold guessR; rw [if_neg (by rw [hz]; decide)]
      obtain ⟨h, hn, h0⟩ := guessE_zero hz
      repeat first | refine lwp_seq fun K hK => ?_ | ((with_reducible refine gA ?_); apply_assumption -exfalso -symm) | refine gB ?_ | refine gC ?_ | refine gD ?_ | refine gE ?_ | refine gF rfl ?_ | refine gG rfl ?_ | refine gH ?_ | refine gI ?_ | refine gJ ?_ | refine gK ?_ | refine gL ?_ | refine lwp_region hC ⟨[], [], []⟩ (told0 _ _) rfl ⟨⟩ ?_
      (refine lwp_region hC ⟨[], [], [(3, PGuess_i m s n l [(0, some 0), (1, some 1), (2, some 2)])]⟩ (told1 _ (by rw [hP]; exact (calls_cons (PGuess_s _ _ _ _ _ h hn h0) calls_nil))) rfl ?_ ?_; rotate_left 1)
      · repeat first | refine lwp_seq fun K hK => ?_ | ((with_reducible refine gA ?_); apply_assumption -exfalso -symm) | refine gB ?_ | refine gC ?_ | refine gD ?_ | refine gE ?_ | refine gF rfl ?_ | refine gG rfl ?_ | refine gH ?_ | refine gI ?_ | refine gJ ?_ | refine gK ?_ | refine gL ?_ | refine lwp_region hC ⟨[], [], []⟩ (told0 _ _) rfl ⟨⟩ ?_ | refine lwp_region hC ⟨[], [], []⟩ (told0 _ _) rfl (by exact sd) ?_
        (refine end_intro (by first | exact .inr rfl | exact .inl rfl) [] rfl ?_)
        rw [hE, hz]
        exact ⟨rfl, rfl, trivial⟩
      · exact sd
  · exact sd

end Go.Proofs.YtoopgdchiljmiaaGreatDoor
