/- PlanTonnes: Ballast, the program's and the reference's, and the law. -/
import Derived.Test.YtccddhoeampdjaaGreatDoorPb
import Derived.Test.YtccddhoeampdjaaGreatDoorPx
set_option linter.unusedVariables false
set_option linter.unusedSimpArgs false
namespace Go.Proofs.YtccddhoeampdjaaGreatDoor
open Go.RowKit Go.Sym

theorem ceil_eq (m y : Int) (hy : 0 < y) : 0 - (0 - m) / y = (m + y - 1) / y := by
  have a1 := Int.emod_add_mul_ediv (0 - m) y
  have a2 := Int.emod_nonneg (0 - m) (show y ≠ 0 by omega)
  have a3 := Int.emod_lt_of_pos (0 - m) hy
  have b1 := Int.emod_add_mul_ediv (m + y - 1) y
  have b2 := Int.emod_nonneg (m + y - 1) (show y ≠ 0 by omega)
  have b3 := Int.emod_lt_of_pos (m + y - 1) hy
  have hs : y * ((0 - m) / y + (m + y - 1) / y) = y * ((0 - m) / y) + y * ((m + y - 1) / y) := Int.mul_add _ _ _
  generalize (0 - m) / y = p at *
  generalize (m + y - 1) / y = q at *
  have h1 : p + q < 1 := by
    rcases Int.lt_or_le (p + q) 1 with h | h
    · exact h
    · have := Int.mul_le_mul_of_nonneg_left h (show 0 ≤ y by omega)
      omega
  have h2 : -1 < p + q := by
    rcases Int.lt_or_le (-1) (p + q) with h | h
    · exact h
    · have := Int.mul_le_mul_of_nonneg_left h (show 0 ≤ y by omega)
      omega
  omega
def balE (l : List Int) (x y : Int) : Int := firstS [whenS (decide ((l.length : Int) > 24)) 5, firstS (rangeL 0 12 l), priceS x y]
def balN (l : List Int) (x y : Int) : Int := (sumZ l * x + y - 1) / y
/-- The tonnes, and the error. -/
def balS (l : List Int) (x y : Int) : Int × Int := if balE l x y = 0 then (if balN l x y > 999999999 then (0, 4) else (balN l x y, 0)) else (0, balE l x y)
structure BalOk (l : List Int) (x y : Int) : Prop where
  ok : sumOk l
  hs : 0 ≤ sumZ l ∧ sumZ l ≤ 288
  hx : 0 ≤ x ∧ x ≤ 999999999
  hy : 1 ≤ y ∧ y ≤ 999999999
  hm : 0 ≤ sumZ l * x ∧ sumZ l * x ≤ 1000000000000
  hn : 0 ≤ balN l x y ∧ balN l x y ≤ 2000000000000
theorem balOk {l : List Int} {x y : Int} (h : balE l x y = 0) : BalOk l x y := by
  have h1 := (firstS_cons _ _).1 h
  have h2 := (firstS_cons _ _).1 h1.2
  have h3 := ((firstS_cons _ _).1 h2.2).1
  have h4 := (firstS_cons _ _).1 h3
  have hlen := (whenS_zero (by decide)).1 h1.1
  have hlen : l.length ≤ 24 := by have := of_decide_eq_false hlen; omega
  have hl := rangeL_zero h2.1
  have hx := (whenS_zero (by decide)).1 ((firstS_cons _ _).1 h4.2).1
  have hx := of_decide_eq_false hx
  have hr : numsS x y = 0 := by
    rcases Decidable.em (numsS x y = 0) with h | h
    · exact h
    · have := h4.1
      unfold ratS at this
      rwa [if_neg h] at this
  have hr := numsS_zero hr
  have hs := sumZ_in hl
  have hs2 : sumZ l ≤ 288 := by omega
  have m1 : 0 ≤ sumZ l * x := Int.mul_nonneg hs.1 (by omega)
  have m2 : sumZ l * x ≤ 288 * x := Int.mul_le_mul_of_nonneg_right hs2 (by omega)
  refine ⟨fun k hk => ?_, ⟨hs.1, hs2⟩, ⟨by omega, hr.1.2⟩, hr.2, ⟨m1, by omega⟩, ?_, ?_⟩
  · have := sumZ_in (l := l.take k) (M := 12) fun x hx => hl x (List.mem_of_mem_take hx)
    rw [List.length_take] at this
    omega
  · exact Int.ediv_nonneg (by omega) (by omega)
  · have := Int.ediv_le_self y (show 0 ≤ sumZ l * x + y - 1 by omega)
    unfold balN
    omega
def Bal_i (l : List Int) (x y : Int) (σ : Ren) : Inst := { f := 45, hin := [(0, .ro l.length 1 (.ints .i64 l))], args := [.sl 0 l.length, .agg [i64 x, i64 y]], hout := [], ret := .tup [i64 (balS l x y).1, i64 (balS l x y).2], σ := σ }
set_option maxRecDepth 20000 in
theorem Bal_s (l : List Int) (x y : Int) (σ : Ren) (hl : l.length ≤ 1000000) : (Bal_i l x y σ).ok Tryz.prog := by
  unfold Bal_i Inst.ok; dsimp only; refine spec_of_body (tys := tys) 1 Tryz.func45 (by kernel_rfl) rfl tys_ok rfl (Nat.le_of_ble_eq_true rfl) (fun _ _ h => (by cases h)) fun F hP hm hC hrd => ?_; conv => whnf
  repeat first | refine lwp_seq fun K hK => ?_ | ((with_reducible refine gA ?_); apply_assumption -exfalso -symm) | refine gB ?_ | refine gC ?_ | refine gD ?_ | refine gE ?_ | refine gF rfl ?_ | refine gG rfl ?_ | refine gH ?_ | refine gI ?_ | refine gJ ?_ | refine gK ?_ | refine gL ?_ | refine gM hC rfl ⟨⟩ ?_ | refine gM hC rfl (by exact sd) ?_
  (refine lwp_drawn hC (by rw [hP]; exact mixed) ⟨[], [], [(3, PWhen_i (decide ((l.length : Int) > 24)) 5), (5, PLifts_i 12 l [(0, some 0)]), (7, Price_i x y), (9, PFirst_i [whenS (decide ((l.length : Int) > 24)) 5, firstS (rangeL 0 12 l), priceS x y] [(0, some 2)])]⟩ (told1 _ (by rw [hP]; exact (calls_cons (PWhen_s _ _) (calls_cons (PLifts_s _ _ _ hl) (calls_cons (Price_s _ _) (calls_cons (PFirst_s _ _ (by simp)) calls_nil)))))) [0, 1, 3, 7, 0, 31, 0, 127, 255, 511, 1023] 7 rfl ?_ ?_; rotate_left 1)
  · repeat first | refine lwp_seq fun K hK => ?_ | ((with_reducible refine gA ?_); apply_assumption -exfalso -symm) | refine gB ?_ | refine gC ?_ | refine gD ?_ | refine gE ?_ | refine gF rfl ?_ | refine gG rfl ?_ | refine gH ?_ | refine gI ?_ | refine gJ ?_ | refine gK ?_ | refine gL ?_ | refine gM hC rfl ⟨⟩ ?_ | refine gM hC rfl (by exact sd) ?_
    (refine lwp_cond hC rfl (by first | exact ⟨⟩ | exact sd) (fun hb => ?_) (fun hb => ?_) <;> (try simp only [decide_eq_true_eq, decide_eq_false_iff_not, Bool.not_eq_true', Bool.not_eq_false', ne_eq, Decidable.not_not] at hb))
    · have e : balS l x y = (0, balE l x y) := if_neg hb
      repeat first | refine lwp_seq fun K hK => ?_ | ((with_reducible refine gA ?_); apply_assumption -exfalso -symm) | refine gB ?_ | refine gC ?_ | refine gD ?_ | refine gE ?_ | refine gF rfl ?_ | refine gG rfl ?_ | refine gH ?_ | refine gI ?_ | refine gJ ?_ | refine gK ?_ | refine gL ?_ | refine gM hC rfl ⟨⟩ ?_ | refine gM hC rfl (by exact sd) ?_
      (refine end_intro (by first | exact .inr rfl | exact .inl rfl) [] rfl ?_)
      rw [e]
      exact ⟨rfl, rfl, trivial⟩
    · have hk := balOk (l := l) (x := x) (y := y) hb
      have hE : balE l x y = 0 := hb
      have e : balS l x y = if balN l x y > 999999999 then (0, 4) else (balN l x y, 0) := if_pos hE
      obtain ⟨k1, k2, k3, k4, k5, k6⟩ := hk
      have ht : (sumZ l * x + y - 1).tdiv y = balN l x y := Int.tdiv_eq_ediv_of_nonneg (by omega)
      clear hb hE
      repeat first | refine lwp_seq fun K hK => ?_ | ((with_reducible refine gA ?_); apply_assumption -exfalso -symm) | refine gB ?_ | refine gC ?_ | refine gD ?_ | refine gE ?_ | refine gF rfl ?_ | refine gG rfl ?_ | refine gH ?_ | refine gI ?_ | refine gJ ?_ | refine gK ?_ | refine gL ?_ | refine gM hC rfl ⟨⟩ ?_
      (refine lwp_drawn hC (by rw [hP]; exact mixed) ⟨[], [], [(1, Total_i l [(0, some 0)])]⟩ (told1 _ (by rw [hP]; exact (calls_cons (Total_s _ _ hl k1) calls_nil))) [0, 1, 0, 4, 15, 0, 32, 127, 255, 0, 512, 2047, 4095] 11 rfl ?_ ?_; rotate_left 1)
      · rw [ht]
        repeat first | refine lwp_seq fun K hK => ?_ | ((with_reducible refine gA ?_); apply_assumption -exfalso -symm) | refine gB ?_ | refine gC ?_ | refine gD ?_ | refine gE ?_ | refine gF rfl ?_ | refine gG rfl ?_ | refine gH ?_ | refine gI ?_ | refine gJ ?_ | refine gK ?_ | refine gL ?_ | refine gM hC rfl ⟨⟩ ?_
        (refine lwp_cond hC rfl (by first | exact ⟨⟩ | exact sd) (fun hb => ?_) (fun hb => ?_) <;> (try simp only [decide_eq_true_eq, decide_eq_false_iff_not, Bool.not_eq_true', Bool.not_eq_false', ne_eq, Decidable.not_not] at hb))
        · rw [if_pos hb] at e
          repeat first | refine lwp_seq fun K hK => ?_ | ((with_reducible refine gA ?_); apply_assumption -exfalso -symm) | refine gB ?_ | refine gC ?_ | refine gD ?_ | refine gE ?_ | refine gF rfl ?_ | refine gG rfl ?_ | refine gH ?_ | refine gI ?_ | refine gJ ?_ | refine gK ?_ | refine gL ?_ | refine gM hC rfl ⟨⟩ ?_
          (refine end_intro (by first | exact .inr rfl | exact .inl rfl) [] rfl ?_)
          rw [e]
          exact ⟨rfl, rfl, trivial⟩
        · rw [if_neg hb] at e
          repeat first | refine lwp_seq fun K hK => ?_ | ((with_reducible refine gA ?_); apply_assumption -exfalso -symm) | refine gB ?_ | refine gC ?_ | refine gD ?_ | refine gE ?_ | refine gF rfl ?_ | refine gG rfl ?_ | refine gH ?_ | refine gI ?_ | refine gJ ?_ | refine gK ?_ | refine gL ?_ | refine gM hC rfl ⟨⟩ ?_
          (refine end_intro (by first | exact .inr rfl | exact .inl rfl) [] rfl ?_)
          rw [e]
          exact ⟨rfl, rfl, trivial⟩
      · rw [ht]
        clear k1
        exact sd
  · exact sd
def RBal_i (l : List Int) (x y : Int) (σ : Ren) : Inst := { f := 46, hin := [(0, .ro l.length 1 (.ints .i64 l))], args := [.sl 0 l.length, .agg [i64 x, i64 y]], hout := [], ret := .tup [i64 (balS l x y).1, i64 (balS l x y).2], σ := σ }
set_option maxRecDepth 20000 in
theorem RBal_s (l : List Int) (x y : Int) (σ : Ren) (hl : l.length ≤ 1000000) : (RBal_i l x y σ).ok Tryz.prog := by
  unfold RBal_i Inst.ok; dsimp only; refine spec_of_body (tys := tys) 1 Tryz.func46 (by kernel_rfl) rfl tys_ok rfl (Nat.le_of_ble_eq_true rfl) (fun _ _ h => (by cases h)) fun F hP hm hC hrd => ?_; conv => whnf
  repeat first | refine lwp_seq fun K hK => ?_ | ((with_reducible refine gA ?_); apply_assumption -exfalso -symm) | refine gB ?_ | refine gC ?_ | refine gD ?_ | refine gE ?_ | refine gF rfl ?_ | refine gG rfl ?_ | refine gH ?_ | refine gI ?_ | refine gJ ?_ | refine gK ?_ | refine gL ?_ | refine gM hC rfl ⟨⟩ ?_ | refine gM hC rfl (by exact sd) ?_
  (refine lwp_cond hC rfl (by first | exact ⟨⟩ | exact sd) (fun hb => ?_) (fun hb => ?_) <;> (try simp only [decide_eq_true_eq, decide_eq_false_iff_not, Bool.not_eq_true', Bool.not_eq_false', ne_eq, Decidable.not_not] at hb))
  · have e : balS l x y = (0, 5) := by
      unfold balS balE
      rw [decide_eq_true hb]
      rfl
    repeat first | refine lwp_seq fun K hK => ?_ | ((with_reducible refine gA ?_); apply_assumption -exfalso -symm) | refine gB ?_ | refine gC ?_ | refine gD ?_ | refine gE ?_ | refine gF rfl ?_ | refine gG rfl ?_ | refine gH ?_ | refine gI ?_ | refine gJ ?_ | refine gK ?_ | refine gL ?_ | refine gM hC rfl ⟨⟩ ?_ | refine gM hC rfl (by exact sd) ?_
    (refine end_intro (by first | exact .inr rfl | exact .inl rfl) [] rfl ?_)
    rw [e]
    exact ⟨rfl, rfl, trivial⟩
  · have eE : balE l x y = firstS [firstS (rangeL 0 12 l), ratS x y, whenS (decide (x < 0)) 3] := by
      unfold balE
      rw [decide_eq_false hb]
      simp only [firstS, whenS, priceS, if_true, Bool.false_eq_true, if_false]
      by_cases q1 : firstS (rangeL 0 12 l) = 0
      · by_cases q2 : ratS x y = 0
        · simp only [if_pos q1, if_pos q2]
          by_cases q3 : x < 0 <;> simp [q3]
        · simp [q1, q2]
      · simp [q1]
    clear hb
    repeat first | refine lwp_seq fun K hK => ?_ | ((with_reducible refine gA ?_); apply_assumption -exfalso -symm) | refine gB ?_ | refine gC ?_ | refine gD ?_ | refine gE ?_ | refine gF rfl ?_ | refine gG rfl ?_ | refine gH ?_ | refine gI ?_ | refine gJ ?_ | refine gK ?_ | refine gL ?_ | refine gM hC rfl ⟨⟩ ?_ | refine gM hC rfl (by exact sd) ?_
    (refine lwp_drawn hC (by rw [hP]; exact mixed) ⟨[], [], [(1, RRanges_i 0 12 l [(0, some 0)]), (3, RRatio_i x y), (7, When_i (decide (x < 0)) 3), (9, First_i [firstS (rangeL 0 12 l), ratS x y, whenS (decide (x < 0)) 3] [(0, some 2)])]⟩ (told1 _ (by rw [hP]; exact (calls_cons (RRanges_s _ _ _ _ hl) (calls_cons (RRatio_s _ _) (calls_cons (When_s _ _) (calls_cons (First_s _ _ (by simp)) calls_nil)))))) [0, 1, 0, 7, 0, 16, 48, 127, 255, 511, 1023] 7 rfl ?_ ?_; rotate_left 1)
    · rw [← eE]
      repeat first | refine lwp_seq fun K hK => ?_ | ((with_reducible refine gA ?_); apply_assumption -exfalso -symm) | refine gB ?_ | refine gC ?_ | refine gD ?_ | refine gE ?_ | refine gF rfl ?_ | refine gG rfl ?_ | refine gH ?_ | refine gI ?_ | refine gJ ?_ | refine gK ?_ | refine gL ?_ | refine gM hC rfl ⟨⟩ ?_ | refine gM hC rfl (by exact sd) ?_
      (refine lwp_cond hC rfl (by first | exact ⟨⟩ | exact sd) (fun hb => ?_) (fun hb => ?_) <;> (try simp only [decide_eq_true_eq, decide_eq_false_iff_not, Bool.not_eq_true', Bool.not_eq_false', ne_eq, Decidable.not_not] at hb))
      · have e : balS l x y = (0, balE l x y) := if_neg hb
        repeat first | refine lwp_seq fun K hK => ?_ | ((with_reducible refine gA ?_); apply_assumption -exfalso -symm) | refine gB ?_ | refine gC ?_ | refine gD ?_ | refine gE ?_ | refine gF rfl ?_ | refine gG rfl ?_ | refine gH ?_ | refine gI ?_ | refine gJ ?_ | refine gK ?_ | refine gL ?_ | refine gM hC rfl ⟨⟩ ?_ | refine gM hC rfl (by exact sd) ?_
        (refine end_intro (by first | exact .inr rfl | exact .inl rfl) [] rfl ?_)
        rw [e]
        exact ⟨rfl, rfl, trivial⟩
      · have hk := balOk hb
        have e : balS l x y = if balN l x y > 999999999 then (0, 4) else (balN l x y, 0) := if_pos hb
        obtain ⟨k1, k2, k3, k4, k5, k6⟩ := hk
        have ht : 0 - (0 - x * sumZ l) / y = balN l x y := by rw [Int.mul_comm]; exact ceil_eq _ _ (by omega)
        rw [Int.mul_comm] at k5
        clear hb eE
        repeat first | refine lwp_seq fun K hK => ?_ | ((with_reducible refine gA ?_); apply_assumption -exfalso -symm) | refine gB ?_ | refine gC ?_ | refine gD ?_ | refine gE ?_ | refine gF rfl ?_ | refine gG rfl ?_ | refine gH ?_ | refine gI ?_ | refine gJ ?_ | refine gK ?_ | refine gL ?_ | refine gM hC rfl ⟨⟩ ?_
        (refine lwp_drawn hC (by rw [hP]; exact mixed) ⟨[], [], [(3, RSum_i l [(0, some 0)]), (8, Floor_i (0 - x * sumZ l) y)]⟩ (told1 _ (by rw [hP]; exact (calls_cons (RSum_s _ _ hl k1) (calls_cons (Floor_s _ _ (by omega) (by omega)) calls_nil)))) [0, 1, 0, 4, 15, 31, 0, 64, 255, 511, 1023] 8 rfl ?_ ?_; rotate_left 1)
        · rw [ht]
          repeat first | refine lwp_seq fun K hK => ?_ | ((with_reducible refine gA ?_); apply_assumption -exfalso -symm) | refine gB ?_ | refine gC ?_ | refine gD ?_ | refine gE ?_ | refine gF rfl ?_ | refine gG rfl ?_ | refine gH ?_ | refine gI ?_ | refine gJ ?_ | refine gK ?_ | refine gL ?_ | refine gM hC rfl ⟨⟩ ?_
          (refine lwp_cond hC rfl (by first | exact ⟨⟩ | exact sd) (fun hb => ?_) (fun hb => ?_) <;> (try simp only [decide_eq_true_eq, decide_eq_false_iff_not, Bool.not_eq_true', Bool.not_eq_false', ne_eq, Decidable.not_not] at hb))
          · rw [if_pos hb] at e
            repeat first | refine lwp_seq fun K hK => ?_ | ((with_reducible refine gA ?_); apply_assumption -exfalso -symm) | refine gB ?_ | refine gC ?_ | refine gD ?_ | refine gE ?_ | refine gF rfl ?_ | refine gG rfl ?_ | refine gH ?_ | refine gI ?_ | refine gJ ?_ | refine gK ?_ | refine gL ?_ | refine gM hC rfl ⟨⟩ ?_
            (refine end_intro (by first | exact .inr rfl | exact .inl rfl) [] rfl ?_)
            rw [e]
            exact ⟨rfl, rfl, trivial⟩
          · rw [if_neg hb] at e
            repeat first | refine lwp_seq fun K hK => ?_ | ((with_reducible refine gA ?_); apply_assumption -exfalso -symm) | refine gB ?_ | refine gC ?_ | refine gD ?_ | refine gE ?_ | refine gF rfl ?_ | refine gG rfl ?_ | refine gH ?_ | refine gI ?_ | refine gJ ?_ | refine gK ?_ | refine gL ?_ | refine gM hC rfl ⟨⟩ ?_
            (refine end_intro (by first | exact .inr rfl | exact .inl rfl) [] rfl ?_)
            rw [e]
            exact ⟨rfl, rfl, trivial⟩
        · rw [ht]
          clear k1
          exact sd
    · exact sd

def LawTo_i (l : List Int) (x y : Int) : Inst := { f := 7, gl := lawG, hin := [(0, pwC), (1, kdC), (2, .ro l.length 1 (.ints .i64 l))], args := [.sl 2 l.length, .agg [i64 x, i64 y]], hout := [], ret := bl true, σ := [] }
theorem LawTo_s (l : List Int) (x y : Int) (hl : l.length ≤ 9223372036854775807) : (LawTo_i l x y).ok Tryz.prog := by
  unfold LawTo_i Inst.ok; dsimp only; refine spec_of_body (tys := tys) 3 Tryz.func7 (by kernel_rfl) rfl tys_ok rfl (Nat.le_of_ble_eq_true rfl) (fun g i h => by simp only [List.mem_cons, List.not_mem_nil, or_false, Prod.mk.injEq] at h; omega) fun F hP hm hC hrd => ?_; conv => whnf
  repeat first | refine lwp_seq fun K hK => ?_ | ((with_reducible refine gA ?_); apply_assumption -exfalso -symm) | refine gB ?_ | refine gC ?_ | refine gD ?_ | refine gE ?_ | refine gF rfl ?_ | refine gG rfl ?_ | refine gH ?_ | refine gI ?_ | refine gJ ?_ | refine gK ?_ | refine gL ?_ | refine gM hC rfl ⟨⟩ ?_ | refine gM hC rfl (by exact sd) ?_
  by_cases hS : shortB l.length = true
  · have hl' : l.length ≤ 1000000 := by
      unfold shortB at hS
      by_cases q1 : (l.length : Int) ≤ 9 <;> by_cases q2 : (l.length : Int) = 25 <;> simp [q1, q2] at hS <;> omega
    (refine lwp_region hC ⟨[], [], [(1, LShort_i l [(0, some 2)])]⟩ (told1 _ (by rw [hP]; exact (calls_cons (LShort_s _ _ hl) calls_nil))) rfl ?_ ?_; rotate_left 1)
    · rw [hS]
      repeat first | refine lwp_seq fun K hK => ?_ | ((with_reducible refine gA ?_); apply_assumption -exfalso -symm) | refine gB ?_ | refine gC ?_ | refine gD ?_ | refine gE ?_ | refine gF rfl ?_ | refine gG rfl ?_ | refine gH ?_ | refine gI ?_ | refine gJ ?_ | refine gK ?_ | refine gL ?_ | refine gM hC rfl ⟨⟩ ?_ | refine gM hC rfl (by exact sd) ?_
      (refine lwp_cond hC rfl (by first | exact ⟨⟩ | exact sd) (fun hb => ?_) (fun hb => ?_) <;> (try simp only [decide_eq_true_eq, decide_eq_false_iff_not, Bool.not_eq_true', Bool.not_eq_false', ne_eq, Decidable.not_not] at hb))
      · exact absurd hb (by decide)
      · clear hb
        repeat first | refine lwp_seq fun K hK => ?_ | ((with_reducible refine gA ?_); apply_assumption -exfalso -symm) | refine gB ?_ | refine gC ?_ | refine gD ?_ | refine gE ?_ | refine gF rfl ?_ | refine gG rfl ?_ | refine gH ?_ | refine gI ?_ | refine gJ ?_ | refine gK ?_ | refine gL ?_ | refine gM hC rfl ⟨⟩ ?_ | refine gM hC rfl (by exact sd) ?_
        (refine lwp_drawn hC (by rw [hP]; exact mixed) ⟨[], [], [(1, LInts_i l [(0, some 2)]), (3, Bal_i l x y [(0, some 4)])]⟩ (told1 _ (by rw [hP]; exact (calls_cons (LInts_s _ _ hl') (calls_cons (Bal_s _ _ _ _ hl') calls_nil)))) [0, 1, 0, 7, 15, 31, 31, 63, 255] 8 rfl ?_ ?_; rotate_left 1)
        · repeat first | refine lwp_seq fun K hK => ?_ | ((with_reducible refine gA ?_); apply_assumption -exfalso -symm) | refine gB ?_ | refine gC ?_ | refine gD ?_ | refine gE ?_ | refine gF rfl ?_ | refine gG rfl ?_ | refine gH ?_ | refine gI ?_ | refine gJ ?_ | refine gK ?_ | refine gL ?_ | refine gM hC rfl ⟨⟩ ?_ | refine gM hC rfl (by exact sd) ?_
          (refine lwp_region hC ⟨[], [], [(2, RBal_i l x y [(0, some 2)])]⟩ (told1 _ (by rw [hP]; exact (calls_cons (RBal_s _ _ _ _ hl') calls_nil))) rfl ?_ ?_; rotate_left 1)
          · repeat first | refine lwp_seq fun K hK => ?_ | ((with_reducible refine gA ?_); apply_assumption -exfalso -symm) | refine gB ?_ | refine gC ?_ | refine gD ?_ | refine gE ?_ | refine gF rfl ?_ | refine gG rfl ?_ | refine gH ?_ | refine gI ?_ | refine gJ ?_ | refine gK ?_ | refine gL ?_ | refine gM hC rfl ⟨⟩ ?_ | refine gM hC rfl (by exact sd) ?_
            (refine lwp_region hC ⟨[(3, { b := some true }), (8, { b := some true })], [], [(9, Awake_i)]⟩ (told1 _ (by rw [hP]; exact (calls_cons (Awake_s) calls_nil))) rfl ?_ ?_; rotate_left 1)
            · repeat first | refine lwp_seq fun K hK => ?_ | ((with_reducible refine gA ?_); apply_assumption -exfalso -symm) | refine gB ?_ | refine gC ?_ | refine gD ?_ | refine gE ?_ | refine gF rfl ?_ | refine gG rfl ?_ | refine gH ?_ | refine gI ?_ | refine gJ ?_ | refine gK ?_ | refine gL ?_ | refine gM hC rfl ⟨⟩ ?_ | refine gM hC rfl (by exact sd) ?_
              (refine end_intro (by first | exact .inr rfl | exact .inl rfl) [] rfl ?_)
              exact ⟨rfl, trivial⟩
            · exact sd
          · exact sd
        · exact sd
    · exact sd
  · have hS : shortB l.length = false := by simpa using hS
    (refine lwp_region hC ⟨[], [], [(1, LShort_i l [(0, some 2)])]⟩ (told1 _ (by rw [hP]; exact (calls_cons (LShort_s _ _ hl) calls_nil))) rfl ?_ ?_; rotate_left 1)
    · rw [hS]
      repeat first | refine lwp_seq fun K hK => ?_ | ((with_reducible refine gA ?_); apply_assumption -exfalso -symm) | refine gB ?_ | refine gC ?_ | refine gD ?_ | refine gE ?_ | refine gF rfl ?_ | refine gG rfl ?_ | refine gH ?_ | refine gI ?_ | refine gJ ?_ | refine gK ?_ | refine gL ?_ | refine gM hC rfl ⟨⟩ ?_ | refine gM hC rfl (by exact sd) ?_
      (refine lwp_cond hC rfl (by first | exact ⟨⟩ | exact sd) (fun hb => ?_) (fun hb => ?_) <;> (try simp only [decide_eq_true_eq, decide_eq_false_iff_not, Bool.not_eq_true', Bool.not_eq_false', ne_eq, Decidable.not_not] at hb))
      · clear hb
        repeat first | refine lwp_seq fun K hK => ?_ | ((with_reducible refine gA ?_); apply_assumption -exfalso -symm) | refine gB ?_ | refine gC ?_ | refine gD ?_ | refine gE ?_ | refine gF rfl ?_ | refine gG rfl ?_ | refine gH ?_ | refine gI ?_ | refine gJ ?_ | refine gK ?_ | refine gL ?_ | refine gM hC rfl ⟨⟩ ?_ | refine gM hC rfl (by exact sd) ?_
        (refine lwp_region hC ⟨[], [], [(0, Awake_i)]⟩ (told1 _ (by rw [hP]; exact (calls_cons (Awake_s) calls_nil))) rfl ?_ ?_; rotate_left 1)
        · repeat first | refine lwp_seq fun K hK => ?_ | ((with_reducible refine gA ?_); apply_assumption -exfalso -symm) | refine gB ?_ | refine gC ?_ | refine gD ?_ | refine gE ?_ | refine gF rfl ?_ | refine gG rfl ?_ | refine gH ?_ | refine gI ?_ | refine gJ ?_ | refine gK ?_ | refine gL ?_ | refine gM hC rfl ⟨⟩ ?_ | refine gM hC rfl (by exact sd) ?_
          (refine end_intro (by first | exact .inr rfl | exact .inl rfl) [] rfl ?_)
          exact ⟨rfl, trivial⟩
        · exact sd
      · exact absurd hb (by decide)
    · exact sd

end Go.Proofs.YtccddhoeampdjaaGreatDoor
