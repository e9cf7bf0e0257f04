/- Chapter 9: integers, sums, quotients: the program's and the reference's. -/
import Derived.Test.YtccddhoeampdjaaGreatDoorPa
set_option linter.unusedVariables false
set_option linter.unusedSimpArgs false
namespace Go.Proofs.YtccddhoeampdjaaGreatDoor
open Go.RowKit Go.Sym

theorem natAbs_max (x : Int) : (if 0 - x > x then 0 - x else x) = (x.natAbs : Int) := by split <;> omega
theorem natAbs_max2 (x : Int) : (if -x > x then -x else x) = (x.natAbs : Int) := by split <;> omega
def LInts_i (l : List Int) (σ : Ren) : Inst := { f := 30, hin := [(0, .ro l.length 1 (.ints .i64 l))], args := [.sl 0 l.length], hout := [(1, .row 3 l.length 1 (.ints .i64 l))], ret := .sl 1 l.length, σ := σ }
theorem LInts_s (l : List Int) (σ : Ren) (h1 : l.length ≤ 1000000) : (LInts_i l σ).ok Tryz.prog := by
  unfold LInts_i Inst.ok; dsimp only; refine spec_of_body (tys := tys) 1 Tryz.func30 (by kernel_rfl) rfl tys_ok rfl (Nat.le_of_ble_eq_true rfl) (fun _ _ h => (by cases h)) fun F hP hm hC hrd => ?_; conv => whnf
  repeat first | refine lwp_seq fun K hK => ?_ | ((with_reducible refine gA ?_); apply_assumption -exfalso -symm) | refine gB ?_ | refine gC ?_ | refine gD ?_ | refine gE ?_ | refine gF rfl ?_ | refine gG rfl ?_ | refine gH ?_ | refine gI ?_ | refine gJ ?_ | refine gK ?_ | refine gL ?_ | refine gM hC rfl ⟨⟩ ?_ | refine gM hC rfl (by exact sd) ?_
  (refine end_intro (by first | exact .inr rfl | exact .inl rfl) [(1, some 2)] rfl ?_)
  exact sd
def shortB (n : Nat) : Bool := bif decide ((n : Int) ≤ 9) then true else decide ((n : Int) = 25)
def LShort_i (l : List Int) (σ : Ren) : Inst := { f := 44, hin := [(0, .ro l.length 1 (.ints .i64 l))], args := [.sl 0 l.length], hout := [], ret := bl (shortB l.length), σ := σ }
theorem LShort_s (l : List Int) (σ : Ren) (hl : l.length ≤ 9223372036854775807) : (LShort_i l σ).ok Tryz.prog := by
  unfold LShort_i Inst.ok; dsimp only; refine spec_of_body (tys := tys) 1 Tryz.func44 (by kernel_rfl) rfl tys_ok rfl (Nat.le_of_ble_eq_true rfl) (fun _ _ h => (by cases h)) fun F hP hm hC hrd => ?_; conv => whnf
  repeat first | refine lwp_seq fun K hK => ?_ | ((with_reducible refine gA ?_); apply_assumption -exfalso -symm) | refine gB ?_ | refine gC ?_ | refine gD ?_ | refine gE ?_ | refine gF rfl ?_ | refine gG rfl ?_ | refine gH ?_ | refine gI ?_ | refine gJ ?_ | refine gK ?_ | refine gL ?_ | refine gM hC rfl ⟨⟩ ?_ | refine gM hC rfl (by exact sd) ?_
  all_goals first | exact sd | skip
  (refine end_intro (by first | exact .inr rfl | exact .inl rfl) [] rfl ?_)
  exact ⟨rfl, trivial⟩

/-! Sums. -/
def sumZ : List Int → Int
  | [] => 0
  | a :: l => a + sumZ l
theorem sumZ_snoc (a : Int) : ∀ l : List Int, sumZ (l ++ [a]) = sumZ l + a
  | [] => by simp [sumZ]
  | b :: l => by simp only [List.cons_append, sumZ, sumZ_snoc a l]; omega
theorem sumZ_take (l : List Int) (k : Nat) (h : k < l.length) : sumZ (l.take (k + 1)) = sumZ (l.take k) + l.getD k 0 := by
  rw [take_snoc l 0 k h, sumZ_snoc]
def sumOk (l : List Int) : Prop := ∀ k, k ≤ l.length → -4000000000000000000 ≤ sumZ (l.take k) ∧ sumZ (l.take k) ≤ 4000000000000000000
theorem sumZ_in {M : Int} : ∀ {l : List Int}, (∀ x ∈ l, 0 ≤ x ∧ x ≤ M) → 0 ≤ sumZ l ∧ sumZ l ≤ l.length * M
  | [], _ => by simp [sumZ]
  | a :: l, h => by
    have h1 := h a List.mem_cons_self
    have h2 := sumZ_in (l := l) fun x hx => h x (List.mem_cons_of_mem _ hx)
    simp only [sumZ, List.length_cons]
    have e : ((l.length + 1 : Nat) : Int) * M = l.length * M + M := by rw [show ((l.length + 1 : Nat) : Int) = (l.length : Int) + 1 by omega, Int.add_mul, Int.one_mul]
    omega
def Total_i (l : List Int) (σ : Ren) : Inst := { f := 114, hin := [(0, .ro l.length 1 (.ints .i64 l))], args := [.sl 0 l.length], hout := [], ret := i64 (sumZ l), σ := σ }
theorem Total_s (l : List Int) (σ : Ren) (hl : l.length ≤ 1000000) (hs : sumOk l) : (Total_i l σ).ok Tryz.prog := by
  unfold Total_i Inst.ok; dsimp only; refine spec_of_body (tys := tys) 1 Tryz.func114 (by kernel_rfl) rfl tys_ok rfl (Nat.le_of_ble_eq_true rfl) (fun _ _ h => (by cases h)) fun F hP hm hC hrd => ?_; conv => whnf
  repeat first | refine lwp_seq fun K hK => ?_ | ((with_reducible refine gA ?_); apply_assumption -exfalso -symm) | refine gB ?_ | refine gC ?_ | refine gD ?_ | refine gE ?_ | refine gF rfl ?_ | refine gG rfl ?_ | refine gH ?_ | refine gI ?_ | refine gJ ?_ | refine gK ?_ | refine gL ?_ | refine gM hC rfl ⟨⟩ ?_ | refine gM hC rfl (by exact sd) ?_
  refine lwp_loop (fun k : Nat => ⟨[(8, i64 k), (7, i64 l.length), (6, .sl 0 l.length), (3, i64 (sumZ (l.take k)))], [(0, .ro l.length 1 (.ints .i64 l))], 1⟩) (fun k => k ≤ l.length) (fun k => l.length - k) 0 ⟨?_, sub_intro hm [(0, some 0)] rfl ?_⟩ ?_
  · exact Nat.zero_le _
  · exact sd
  · rintro k hk
    repeat first | refine lwp_seq fun K hK => ?_ | ((with_reducible refine gA ?_); apply_assumption -exfalso -symm) | refine gB ?_ | refine gC ?_ | refine gD ?_ | refine gE ?_ | refine gF rfl ?_ | refine gG rfl ?_ | refine gH ?_ | refine gI ?_ | refine gJ ?_ | refine gK ?_ | refine gL ?_ | refine gM hC rfl ⟨⟩ ?_ | refine gM hC rfl (by exact sd) ?_
    (refine lwp_cond hC rfl (by first | exact ⟨⟩ | exact sd) (fun hb => ?_) (fun hb => ?_) <;> (try simp only [decide_eq_true_eq, decide_eq_false_iff_not, Bool.not_eq_true', Bool.not_eq_false', ne_eq, Decidable.not_not] at hb))
    · have h1 := hs (k + 1) (by omega)
      rw [sumZ_take l k (by omega)] at h1
      repeat first | refine lwp_seq fun K hK => ?_ | ((with_reducible refine gA ?_); apply_assumption -exfalso -symm) | refine gB ?_ | refine gC ?_ | refine gD ?_ | refine gE ?_ | refine gF rfl ?_ | refine gG rfl ?_ | refine gH ?_ | refine gI ?_ | refine gJ ?_ | refine gK ?_ | refine gL ?_ | refine gM hC rfl ⟨⟩ ?_
      (refine lwp_region hC ⟨[], [], []⟩ (told0 _ _) rfl ?_ ?_; rotate_left 1)
      · rw [Int.toNat_natCast]
        repeat first | refine lwp_seq fun K hK => ?_ | ((with_reducible refine gA ?_); apply_assumption -exfalso -symm) | refine gB ?_ | refine gC ?_ | refine gD ?_ | refine gE ?_ | refine gF rfl ?_ | refine gG rfl ?_ | refine gH ?_ | refine gI ?_ | refine gJ ?_ | refine gK ?_ | refine gL ?_ | refine gM hC rfl ⟨⟩ ?_ | refine gM hC rfl (by exact sd) ?_
        refine gA ⟨k + 1, ?_, ?_, sub_intro hm [(0, some 0)] rfl ?_⟩
        · omega
        · omega
        · rw [sumZ_take l k (by omega)]
          exact sd
      · exact sd
    · repeat first | refine lwp_seq fun K hK => ?_ | ((with_reducible refine gA ?_); apply_assumption -exfalso -symm) | refine gB ?_ | refine gC ?_ | refine gD ?_ | refine gE ?_ | refine gF rfl ?_ | refine gG rfl ?_ | refine gH ?_ | refine gI ?_ | refine gJ ?_ | refine gK ?_ | refine gL ?_ | refine gM hC rfl ⟨⟩ ?_ | refine gM hC rfl (by exact sd) ?_
      (refine end_intro (by first | exact .inr rfl | exact .inl rfl) [] rfl ?_)
      obtain rfl : k = l.length := by omega
      rw [List.take_of_length_le (by omega)]
      exact ⟨rfl, trivial⟩
def RSum_i (l : List Int) (σ : Ren) : Inst := { f := 116, hin := [(0, .ro l.length 1 (.ints .i64 l))], args := [.sl 0 l.length], hout := [], ret := i64 (sumZ l), σ := σ }
theorem RSum_s (l : List Int) (σ : Ren) (hl : l.length ≤ 1000000) (hs : sumOk l) : (RSum_i l σ).ok Tryz.prog := by
  unfold RSum_i Inst.ok; dsimp only; refine spec_of_body (tys := tys) 1 Tryz.func116 (by kernel_rfl) rfl tys_ok rfl (Nat.le_of_ble_eq_true rfl) (fun _ _ h => (by cases h)) fun F hP hm hC hrd => ?_; conv => whnf
  repeat first | refine lwp_seq fun K hK => ?_ | ((with_reducible refine gA ?_); apply_assumption -exfalso -symm) | refine gB ?_ | refine gC ?_ | refine gD ?_ | refine gE ?_ | refine gF rfl ?_ | refine gG rfl ?_ | refine gH ?_ | refine gI ?_ | refine gJ ?_ | refine gK ?_ | refine gL ?_ | refine gM hC rfl ⟨⟩ ?_ | refine gM hC rfl (by exact sd) ?_
  refine lwp_loop (fun k : Nat => ⟨[(4, i64 k), (0, .sl 0 l.length), (3, i64 (sumZ (l.take k)))], [(0, .ro l.length 1 (.ints .i64 l))], 1⟩) (fun k => k ≤ l.length) (fun k => l.length - k) 0 ⟨?_, sub_intro hm [(0, some 0)] rfl ?_⟩ ?_
  · exact Nat.zero_le _
  · exact sd
  · rintro k hk
    repeat first | refine lwp_seq fun K hK => ?_ | ((with_reducible refine gA ?_); apply_assumption -exfalso -symm) | refine gB ?_ | refine gC ?_ | refine gD ?_ | refine gE ?_ | refine gF rfl ?_ | refine gG rfl ?_ | refine gH ?_ | refine gI ?_ | refine gJ ?_ | refine gK ?_ | refine gL ?_ | refine gM hC rfl ⟨⟩ ?_ | refine gM hC rfl (by exact sd) ?_
    (refine lwp_cond hC rfl (by first | exact ⟨⟩ | exact sd) (fun hb => ?_) (fun hb => ?_) <;> (try simp only [decide_eq_true_eq, decide_eq_false_iff_not, Bool.not_eq_true', Bool.not_eq_false', ne_eq, Decidable.not_not] at hb))
    · have h1 := hs (k + 1) (by omega)
      rw [sumZ_take l k (by omega)] at h1
      have hkk : ((k : Int)).toNat = k := Int.toNat_natCast k
      repeat first | refine lwp_seq fun K hK => ?_ | ((with_reducible refine gA ?_); apply_assumption -exfalso -symm) | refine gB ?_ | refine gC ?_ | refine gD ?_ | refine gE ?_ | refine gF rfl ?_ | refine gG rfl ?_ | refine gH ?_ | refine gI ?_ | refine gJ ?_ | refine gK ?_ | refine gL ?_ | refine gM hC rfl ⟨⟩ ?_
      (refine lwp_region hC ⟨[], [], []⟩ (told0 _ _) rfl ?_ ?_; rotate_left 1)
      · rw [hkk]
        repeat first | refine lwp_seq fun K hK => ?_ | ((with_reducible refine gA ?_); apply_assumption -exfalso -symm) | refine gB ?_ | refine gC ?_ | refine gD ?_ | refine gE ?_ | refine gF rfl ?_ | refine gG rfl ?_ | refine gH ?_ | refine gI ?_ | refine gJ ?_ | refine gK ?_ | refine gL ?_ | refine gM hC rfl ⟨⟩ ?_
        repeat first | refine lwp_seq fun K hK => ?_ | ((with_reducible refine gA ?_); apply_assumption -exfalso -symm) | refine gB ?_ | refine gC ?_ | refine gD ?_ | refine gE ?_ | refine gF rfl ?_ | refine gG rfl ?_ | refine gH ?_ | refine gI ?_ | refine gJ ?_ | refine gK ?_ | refine gL ?_ | refine gM hC rfl ⟨⟩ ?_ | refine gM hC rfl (by exact sd) ?_
        refine gA ⟨k + 1, ?_, ?_, sub_intro hm [(0, some 0)] rfl ?_⟩
        · omega
        · omega
        · rw [sumZ_take l k (by omega)]
          exact sd
      · rw [hkk]; exact sd
    · repeat first | refine lwp_seq fun K hK => ?_ | ((with_reducible refine gA ?_); apply_assumption -exfalso -symm) | refine gB ?_ | refine gC ?_ | refine gD ?_ | refine gE ?_ | refine gF rfl ?_ | refine gG rfl ?_ | refine gH ?_ | refine gI ?_ | refine gJ ?_ | refine gK ?_ | refine gL ?_ | refine gM hC rfl ⟨⟩ ?_ | refine gM hC rfl (by exact sd) ?_
      (refine end_intro (by first | exact .inr rfl | exact .inl rfl) [] rfl ?_)
      obtain rfl : k = l.length := by omega
      rw [List.take_of_length_le (by omega)]
      exact ⟨rfl, trivial⟩

/-! Lifts. -/
def Lift1_i (m x : Int) (σ : Ren) : Inst := { f := 165, hin := [(0, .rb 3 [i64 m])], args := [i64 x, .ptr 0 0 0 0], hout := [], ret := i64 (withinS x 0 m), σ := σ }
theorem Lift1_s (m x : Int) (σ : Ren) : (Lift1_i m x σ).ok Tryz.prog := by
  unfold Lift1_i Inst.ok; dsimp only; refine spec_of_body (tys := tys) 1 Tryz.func165 (by kernel_rfl) rfl tys_ok rfl (Nat.le_of_ble_eq_true rfl) (fun _ _ h => (by cases h)) fun F hP hm hC hrd => ?_; conv => whnf
  repeat first | refine lwp_seq fun K hK => ?_ | ((with_reducible refine gA ?_); apply_assumption -exfalso -symm) | refine gB ?_ | refine gC ?_ | refine gD ?_ | refine gE ?_ | refine gF rfl ?_ | refine gG rfl ?_ | refine gH ?_ | refine gI ?_ | refine gJ ?_ | refine gK ?_ | refine gL ?_ | refine gM hC rfl ⟨⟩ ?_ | refine gM hC rfl (by exact sd) ?_
  (refine lwp_region hC ⟨[], [], [(2, PWithin_i x 0 m)]⟩ (told1 _ (by rw [hP]; exact (calls_cons (PWithin_s _ _ _) calls_nil))) rfl ?_ ?_; rotate_left 1)
  · repeat first | refine lwp_seq fun K hK => ?_ | ((with_reducible refine gA ?_); apply_assumption -exfalso -symm) | refine gB ?_ | refine gC ?_ | refine gD ?_ | refine gE ?_ | refine gF rfl ?_ | refine gG rfl ?_ | refine gH ?_ | refine gI ?_ | refine gJ ?_ | refine gK ?_ | refine gL ?_ | refine gM hC rfl ⟨⟩ ?_ | refine gM hC rfl (by exact sd) ?_
    (refine end_intro (by first | exact .inr rfl | exact .inl rfl) [] rfl ?_)
    exact ⟨rfl, trivial⟩
  · exact sd
def rangeL (lo hi : Int) (l : List Int) : List Int := l.map fun x => withinS x lo hi
theorem rangeL_take (lo hi : Int) (l : List Int) (k : Nat) (h : k < l.length) : rangeL lo hi (l.take (k + 1)) = rangeL lo hi (l.take k) ++ [withinS (l.getD k 0) lo hi] := by
  rw [take_snoc l 0 k h]; simp [rangeL]
theorem rangeL_len (lo hi : Int) (l : List Int) : (rangeL lo hi l).length = l.length := by simp [rangeL]
theorem rangeL_drop (lo hi : Int) (l : List Int) (k : Nat) (h : k < l.length) : firstS ((rangeL lo hi l).drop k) = if withinS (l.getD k 0) lo hi = 0 then firstS ((rangeL lo hi l).drop (k + 1)) else withinS (l.getD k 0) lo hi := by
  rw [List.drop_eq_getElem_cons (by rw [rangeL_len]; exact h)]
  simp only [firstS, rangeL, List.getElem_map, List.getD_eq_getElem?_getD, List.getElem?_eq_getElem h, Option.getD_some]
theorem rangeL_zero {lo hi : Int} {l : List Int} (h : firstS (rangeL lo hi l) = 0) : ∀ x ∈ l, lo ≤ x ∧ x ≤ hi := by
  induction l with
  | nil => intro x hx; cases hx
  | cons a l ih =>
    have h1 := (firstS_cons _ _).1 h
    intro x hx
    rcases List.mem_cons.1 hx with rfl | hx
    · exact withinS_zero.1 h1.1
    · exact ih h1.2 x hx
def LMap_i (m : Int) (l : List Int) (σ : Ren) : Inst := { f := 164, hin := [(0, .ro l.length 1 (.ints .i64 l)), (1, .rb 3 [i64 m])], args := [.sl 0 l.length, .fn 165 [] [.ptr 1 0 0 0]], hout := [(2, .row 31 l.length 1 (.ints .i64 (rangeL 0 m l)))], ret := .sl 2 l.length, σ := σ }
theorem LMap_s (m : Int) (l : List Int) (σ : Ren) (hl : l.length ≤ 1000000) : (LMap_i m l σ).ok Tryz.prog := by
  unfold LMap_i Inst.ok; dsimp only; refine spec_of_body (tys := tys) 2 Tryz.func164 (by kernel_rfl) rfl tys_ok rfl (Nat.le_of_ble_eq_true rfl) (fun _ _ h => (by cases h)) fun F hP hm hC hrd => ?_; conv => whnf
  repeat first | refine lwp_seq fun K hK => ?_ | ((with_reducible refine gA ?_); apply_assumption -exfalso -symm) | refine gB ?_ | refine gC ?_ | refine gD ?_ | refine gE ?_ | refine gF rfl ?_ | refine gG rfl ?_ | refine gH ?_ | refine gI ?_ | refine gJ ?_ | refine gK ?_ | refine gL ?_ | refine gM hC rfl ⟨⟩ ?_ | refine gM hC rfl (by exact sd) ?_
  refine lwp_loop (fun k : Nat => ⟨[(10, i64 k), (9, i64 l.length), (8, .sl 0 l.length), (5, .sl 2 k), (1, .fn 165 [] [.ptr 1 0 0 0])], [(2, .row 31 k 1 (.ints .i64 (rangeL 0 m (l.take k)))), (0, .ro l.length 1 (.ints .i64 l)), (1, .rb 3 [i64 m])], 3⟩) (fun k => k ≤ l.length) (fun k => l.length - k) 0 ⟨?_, sub_intro hm [(0, some 0), (1, some 1), (2, none)] rfl ?_⟩ ?_
  · exact Nat.zero_le _
  · exact sd
  · rintro k hk
    repeat first | refine lwp_seq fun K hK => ?_ | ((with_reducible refine gA ?_); apply_assumption -exfalso -symm) | refine gB ?_ | refine gC ?_ | refine gD ?_ | refine gE ?_ | refine gF rfl ?_ | refine gG rfl ?_ | refine gH ?_ | refine gI ?_ | refine gJ ?_ | refine gK ?_ | refine gL ?_ | refine gM hC rfl ⟨⟩ ?_ | refine gM hC rfl (by exact sd) ?_
    (refine lwp_cond hC rfl (by first | exact ⟨⟩ | exact sd) (fun hb => ?_) (fun hb => ?_) <;> (try simp only [decide_eq_true_eq, decide_eq_false_iff_not, Bool.not_eq_true', Bool.not_eq_false', ne_eq, Decidable.not_not] at hb))
    · repeat first | refine lwp_seq fun K hK => ?_ | ((with_reducible refine gA ?_); apply_assumption -exfalso -symm) | refine gB ?_ | refine gC ?_ | refine gD ?_ | refine gE ?_ | refine gF rfl ?_ | refine gG rfl ?_ | refine gH ?_ | refine gI ?_ | refine gJ ?_ | refine gK ?_ | refine gL ?_ | refine gM hC rfl ⟨⟩ ?_ | refine gM hC rfl (by exact sd) ?_
      rw [Int.toNat_natCast]
      (refine lwp_region hC ⟨[], [], [(3, Lift1_i m (l.getD k 0) [(0, some 1)])]⟩ (told1 _ (by rw [hP]; exact (calls_cons (Lift1_s _ _ _) calls_nil))) rfl ?_ ?_; rotate_left 1)
      · repeat first | refine lwp_seq fun K hK => ?_ | ((with_reducible refine gA ?_); apply_assumption -exfalso -symm) | refine gB ?_ | refine gC ?_ | refine gD ?_ | refine gE ?_ | refine gF rfl ?_ | refine gG rfl ?_ | refine gH ?_ | refine gI ?_ | refine gJ ?_ | refine gK ?_ | refine gL ?_ | refine gM hC rfl ⟨⟩ ?_ | refine gM hC rfl (by exact sd) ?_
        refine gA ⟨k + 1, ?_, ?_, sub_intro hm [(0, some 0), (1, some 1), (2, some 4)] rfl ?_⟩
        · omega
        · omega
        · rw [rangeL_take _ _ _ _ (by omega)]
          exact sd
      · exact sd
    · repeat first | refine lwp_seq fun K hK => ?_ | ((with_reducible refine gA ?_); apply_assumption -exfalso -symm) | refine gB ?_ | refine gC ?_ | refine gD ?_ | refine gE ?_ | refine gF rfl ?_ | refine gG rfl ?_ | refine gH ?_ | refine gI ?_ | refine gJ ?_ | refine gK ?_ | refine gL ?_ | refine gM hC rfl ⟨⟩ ?_ | refine gM hC rfl (by exact sd) ?_
      (refine end_intro (by first | exact .inr rfl | exact .inl rfl) [(2, some 2)] rfl ?_)
      obtain rfl : k = l.length := by omega
      rw [List.take_of_length_le (by omega)]
      exact sd
def PLifts_i (m : Int) (l : List Int) (σ : Ren) : Inst := { f := 113, hin := [(0, .ro l.length 1 (.ints .i64 l))], args := [.sl 0 l.length, i64 m], hout := [], ret := i64 (firstS (rangeL 0 m l)), σ := σ }
theorem PLifts_s (m : Int) (l : List Int) (σ : Ren) (hl : l.length ≤ 1000000) : (PLifts_i m l σ).ok Tryz.prog := by
  have hF := PFirst_s (rangeL 0 m l) [(0, some 2)] (by rw [rangeL_len]; omega)
  unfold PFirst_i at hF
  rw [rangeL_len] at hF
  unfold PLifts_i Inst.ok; dsimp only; refine spec_of_body (tys := tys) 1 Tryz.func113 (by kernel_rfl) rfl tys_ok rfl (Nat.le_of_ble_eq_true rfl) (fun _ _ h => (by cases h)) fun F hP hm hC hrd => ?_; conv => whnf
  repeat first | refine lwp_seq fun K hK => ?_ | ((with_reducible refine gA ?_); apply_assumption -exfalso -symm) | refine gB ?_ | refine gC ?_ | refine gD ?_ | refine gE ?_ | refine gF rfl ?_ | refine gG rfl ?_ | refine gH ?_ | refine gI ?_ | refine gJ ?_ | refine gK ?_ | refine gL ?_ | refine gM hC rfl ⟨⟩ ?_ | refine gM hC rfl (by exact sd) ?_
  (refine lwp_region hC ⟨[], [], [(2, LMap_i m l [(0, some 0), (1, some 1)]), (3, { f := 94, hin := [(0, .ro l.length 1 (.ints .i64 (rangeL 0 m l)))], args := [.sl 0 l.length], hout := [], ret := i64 (firstS (rangeL 0 m l)), σ := [(0, some 2)] })]⟩ (told1 _ (by rw [hP]; exact (calls_cons (LMap_s _ _ _ hl) (calls_cons (hF) calls_nil)))) rfl ?_ ?_; rotate_left 1)
  · repeat first | refine lwp_seq fun K hK => ?_ | ((with_reducible refine gA ?_); apply_assumption -exfalso -symm) | refine gB ?_ | refine gC ?_ | refine gD ?_ | refine gE ?_ | refine gF rfl ?_ | refine gG rfl ?_ | refine gH ?_ | refine gI ?_ | refine gJ ?_ | refine gK ?_ | refine gL ?_ | refine gM hC rfl ⟨⟩ ?_ | refine gM hC rfl (by exact sd) ?_
    (refine end_intro (by first | exact .inr rfl | exact .inl rfl) [] rfl ?_)
    exact ⟨rfl, trivial⟩
  · exact sd
def RRanges_i (lo hi : Int) (l : List Int) (σ : Ren) : Inst := { f := 115, hin := [(0, .ro l.length 1 (.ints .i64 l))], args := [.sl 0 l.length, i64 lo, i64 hi], hout := [], ret := i64 (firstS (rangeL lo hi l)), σ := σ }
theorem RRanges_s (lo hi : Int) (l : List Int) (σ : Ren) (hl : l.length ≤ 1000000) : (RRanges_i lo hi l σ).ok Tryz.prog := by
  unfold RRanges_i Inst.ok; dsimp only; refine spec_of_body (tys := tys) 1 Tryz.func115 (by kernel_rfl) rfl tys_ok rfl (Nat.le_of_ble_eq_true rfl) (fun _ _ h => (by cases h)) fun F hP hm hC hrd => ?_; conv => whnf
  repeat first | refine lwp_seq fun K hK => ?_ | ((with_reducible refine gA ?_); apply_assumption -exfalso -symm) | refine gB ?_ | refine gC ?_ | refine gD ?_ | refine gE ?_ | refine gF rfl ?_ | refine gG rfl ?_ | refine gH ?_ | refine gI ?_ | refine gJ ?_ | refine gK ?_ | refine gL ?_ | refine gM hC rfl ⟨⟩ ?_ | refine gM hC rfl (by exact sd) ?_
  refine lwp_loop (fun k : Nat => ⟨[(7, i64 k), (0, .sl 0 l.length), (1, i64 lo), (2, i64 hi)], [(0, .ro l.length 1 (.ints .i64 l))], 1⟩) (fun k => k ≤ l.length ∧ firstS (rangeL lo hi l) = firstS ((rangeL lo hi l).drop k)) (fun k => l.length - k) 0 ⟨?_, sub_intro hm [(0, some 0)] rfl ?_⟩ ?_
  · exact ⟨Nat.zero_le _, rfl⟩
  · exact sd
  · rintro k ⟨hk, hf⟩
    repeat first | refine lwp_seq fun K hK => ?_ | ((with_reducible refine gA ?_); apply_assumption -exfalso -symm) | refine gB ?_ | refine gC ?_ | refine gD ?_ | refine gE ?_ | refine gF rfl ?_ | refine gG rfl ?_ | refine gH ?_ | refine gI ?_ | refine gJ ?_ | refine gK ?_ | refine gL ?_ | refine gM hC rfl ⟨⟩ ?_ | refine gM hC rfl (by exact sd) ?_
    (refine lwp_cond hC rfl (by first | exact ⟨⟩ | exact sd) (fun hb => ?_) (fun hb => ?_) <;> (try simp only [decide_eq_true_eq, decide_eq_false_iff_not, Bool.not_eq_true', Bool.not_eq_false', ne_eq, Decidable.not_not] at hb))
    · have hd := rangeL_drop lo hi l k (by omega)
      have hkk : ((k : Int)).toNat = k := Int.toNat_natCast k
      repeat first | refine lwp_seq fun K hK => ?_ | ((with_reducible refine gA ?_); apply_assumption -exfalso -symm) | refine gB ?_ | refine gC ?_ | refine gD ?_ | refine gE ?_ | refine gF rfl ?_ | refine gG rfl ?_ | refine gH ?_ | refine gI ?_ | refine gJ ?_ | refine gK ?_ | refine gL ?_ | refine gM hC rfl ⟨⟩ ?_
      (refine lwp_region hC ⟨[], [], [(6, CheckRange_i (l.getD k 0) lo hi)]⟩ (told1 _ (by rw [hP]; exact (calls_cons (CheckRange_s _ _ _) calls_nil))) rfl ?_ ?_; rotate_left 1)
      · repeat first | refine lwp_seq fun K hK => ?_ | ((with_reducible refine gA ?_); apply_assumption -exfalso -symm) | refine gB ?_ | refine gC ?_ | refine gD ?_ | refine gE ?_ | refine gF rfl ?_ | refine gG rfl ?_ | refine gH ?_ | refine gI ?_ | refine gJ ?_ | refine gK ?_ | refine gL ?_ | refine gM hC rfl ⟨⟩ ?_ | refine gM hC rfl (by exact sd) ?_
        (refine lwp_cond hC rfl (by first | exact ⟨⟩ | exact sd) (fun hb => ?_) (fun hb => ?_) <;> (try simp only [decide_eq_true_eq, decide_eq_false_iff_not, Bool.not_eq_true', Bool.not_eq_false', ne_eq, Decidable.not_not] at hb))
        · repeat first | refine lwp_seq fun K hK => ?_ | ((with_reducible refine gA ?_); apply_assumption -exfalso -symm) | refine gB ?_ | refine gC ?_ | refine gD ?_ | refine gE ?_ | refine gF rfl ?_ | refine gG rfl ?_ | refine gH ?_ | refine gI ?_ | refine gJ ?_ | refine gK ?_ | refine gL ?_ | refine gM hC rfl ⟨⟩ ?_ | refine gM hC rfl (by exact sd) ?_
          (refine end_intro (by first | exact .inr rfl | exact .inl rfl) [] rfl ?_)
          rw [hf, hd, if_neg hb]
          exact ⟨rfl, trivial⟩
        · repeat first | refine lwp_seq fun K hK => ?_ | ((with_reducible refine gA ?_); apply_assumption -exfalso -symm) | refine gB ?_ | refine gC ?_ | refine gD ?_ | refine gE ?_ | refine gF rfl ?_ | refine gG rfl ?_ | refine gH ?_ | refine gI ?_ | refine gJ ?_ | refine gK ?_ | refine gL ?_ | refine gM hC rfl ⟨⟩ ?_ | refine gM hC rfl (by exact sd) ?_
          refine gA ⟨k + 1, ?_, ?_, sub_intro hm [(0, some 0)] rfl ?_⟩
          · exact ⟨by omega, by rw [hf, hd, if_pos hb]⟩
          · omega
          · exact sd
      · rw [hkk]; exact sd
    · repeat first | refine lwp_seq fun K hK => ?_ | ((with_reducible refine gA ?_); apply_assumption -exfalso -symm) | refine gB ?_ | refine gC ?_ | refine gD ?_ | refine gE ?_ | refine gF rfl ?_ | refine gG rfl ?_ | refine gH ?_ | refine gI ?_ | refine gJ ?_ | refine gK ?_ | refine gL ?_ | refine gM hC rfl ⟨⟩ ?_ | refine gM hC rfl (by exact sd) ?_
      (refine end_intro (by first | exact .inr rfl | exact .inl rfl) [] rfl ?_)
      rw [hf, List.drop_of_length_le (by rw [rangeL_len]; omega)]
      exact ⟨rfl, trivial⟩

/-! Divisors. -/
theorem gcd_step {p q x y : Int} (hg : Int.gcd p q = Int.gcd x y) : Int.gcd q (Int.tmod p q) = Int.gcd x y := by
  rw [← hg]
  unfold Int.gcd
  rw [Int.natAbs_tmod, Nat.gcd_comm q.natAbs, ← Nat.gcd_rec, Nat.gcd_comm]
theorem tmod_small {p q M : Int} (hq : q ≠ 0) (h : -M ≤ q ∧ q ≤ M) : -M ≤ Int.tmod p q ∧ Int.tmod p q ≤ M ∧ (Int.tmod p q).natAbs < q.natAbs := by
  have h1 : (Int.tmod p q).natAbs < q.natAbs := by rw [Int.natAbs_tmod]; exact Nat.mod_lt _ (by omega)
  omega
def Common_i (x y : Int) : Inst := { f := 184, hin := [], args := [i64 x, i64 y], hout := [], ret := i64 (Int.gcd x y : Int), σ := [] }
theorem Common_s (x y : Int) (hx : -10000000000000 ≤ x ∧ x ≤ 10000000000000) (hy : -10000000000000 ≤ y ∧ y ≤ 10000000000000) : (Common_i x y).ok Tryz.prog := by
  unfold Common_i Inst.ok; dsimp only; refine spec_of_body (tys := tys) 0 Tryz.func184 (by kernel_rfl) rfl tys_ok rfl (Nat.le_of_ble_eq_true rfl) (fun _ _ h => (by cases h)) fun F hP hm hC hrd => ?_; conv => whnf
  repeat first | refine lwp_seq fun K hK => ?_ | ((with_reducible refine gA ?_); apply_assumption -exfalso -symm) | refine gB ?_ | refine gC ?_ | refine gD ?_ | refine gE ?_ | refine gF rfl ?_ | refine gG rfl ?_ | refine gH ?_ | refine gI ?_ | refine gJ ?_ | refine gK ?_ | refine gL ?_ | refine gM hC rfl ⟨⟩ ?_
  refine lwp_loop (fun s : Int × Int => ⟨[(0, i64 s.1), (1, i64 s.2)], [], 0⟩) (fun s => Int.gcd s.1 s.2 = Int.gcd x y ∧ (-10000000000000 ≤ s.1 ∧ s.1 ≤ 10000000000000) ∧ (-10000000000000 ≤ s.2 ∧ s.2 ≤ 10000000000000)) (fun s => s.2.natAbs) (x, y) ⟨?_, sub_intro hm [] rfl ?_⟩ ?_
  · exact ⟨rfl, hx, hy⟩
  · exact sd
  · rintro ⟨p, q⟩ ⟨hg, hp, hq⟩
    dsimp only at hg hp hq ⊢
    repeat first | refine lwp_seq fun K hK => ?_ | ((with_reducible refine gA ?_); apply_assumption -exfalso -symm) | refine gB ?_ | refine gC ?_ | refine gD ?_ | refine gE ?_ | refine gF rfl ?_ | refine gG rfl ?_ | refine gH ?_ | refine gI ?_ | refine gJ ?_ | refine gK ?_ | refine gL ?_ | refine gM hC rfl ⟨⟩ ?_
    (refine lwp_cond hC rfl (by first | exact ⟨⟩ | exact sd) (fun hb => ?_) (fun hb => ?_) <;> (try simp only [decide_eq_true_eq, decide_eq_false_iff_not, Bool.not_eq_true', Bool.not_eq_false', ne_eq, Decidable.not_not] at hb))
    · have htm := tmod_small (p := p) hb hq
      repeat first | refine lwp_seq fun K hK => ?_ | ((with_reducible refine gA ?_); apply_assumption -exfalso -symm) | refine gB ?_ | refine gC ?_ | refine gD ?_ | refine gE ?_ | refine gF rfl ?_ | refine gG rfl ?_ | refine gH ?_ | refine gI ?_ | refine gJ ?_ | refine gK ?_ | refine gL ?_ | refine gM hC rfl ⟨⟩ ?_
      (refine lwp_drawn2 hC (by rw [hP]; exact mixed) ⟨[], [], []⟩ (told0 _ _) [0, 0, 0, 6, 3, 31] 4 12 rfl ?_ ?_; rotate_left 1)
      · repeat first | refine lwp_seq fun K hK => ?_ | ((with_reducible refine gA ?_); apply_assumption -exfalso -symm) | refine gB ?_ | refine gC ?_ | refine gD ?_ | refine gE ?_ | refine gF rfl ?_ | refine gG rfl ?_ | refine gH ?_ | refine gI ?_ | refine gJ ?_ | refine gK ?_ | refine gL ?_ | refine gM hC rfl ⟨⟩ ?_
        refine gA ⟨(q, Int.tmod p q), ?_, ?_, sub_intro hm [] rfl ?_⟩
        · exact ⟨gcd_step hg, hq, by show _ ≤ Int.tmod p q ∧ Int.tmod p q ≤ _; omega⟩
        · exact htm.2.2
        · exact sd
      · exact sd
    · subst hb
      rw [Int.gcd_zero_right] at hg
      repeat first | refine lwp_seq fun K hK => ?_ | ((with_reducible refine gA ?_); apply_assumption -exfalso -symm) | refine gB ?_ | refine gC ?_ | refine gD ?_ | refine gE ?_ | refine gF rfl ?_ | refine gG rfl ?_ | refine gH ?_ | refine gI ?_ | refine gJ ?_ | refine gK ?_ | refine gL ?_ | refine gM hC rfl ⟨⟩ ?_
      (refine lwp_region hC ⟨[], [], []⟩ (told0 _ _) rfl ?_ ?_; rotate_left 1)
      · repeat first | refine lwp_seq fun K hK => ?_ | ((with_reducible refine gA ?_); apply_assumption -exfalso -symm) | refine gB ?_ | refine gC ?_ | refine gD ?_ | refine gE ?_ | refine gF rfl ?_ | refine gG rfl ?_ | refine gH ?_ | refine gI ?_ | refine gJ ?_ | refine gK ?_ | refine gL ?_ | refine gM hC rfl ⟨⟩ ?_
        (refine end_intro (by first | exact .inr rfl | exact .inl rfl) [] rfl ?_)
        rw [natAbs_max2, hg]
        exact ⟨rfl, trivial⟩
      · exact sd
def RDiv_i (x y : Int) : Inst := { f := 138, hin := [], args := [i64 x, i64 y], hout := [], ret := i64 (Int.gcd x y : Int), σ := [] }
theorem RDiv_s (x y : Int) (hx : -10000000000000 ≤ x ∧ x ≤ 10000000000000) (hy : -10000000000000 ≤ y ∧ y ≤ 10000000000000) : (RDiv_i x y).ok Tryz.prog := by
  unfold RDiv_i Inst.ok; dsimp only; refine spec_of_body (tys := tys) 0 Tryz.func138 (by kernel_rfl) rfl tys_ok rfl (Nat.le_of_ble_eq_true rfl) (fun _ _ h => (by cases h)) fun F hP hm hC hrd => ?_; conv => whnf
  repeat first | refine lwp_seq fun K hK => ?_ | ((with_reducible refine gA ?_); apply_assumption -exfalso -symm) | refine gB ?_ | refine gC ?_ | refine gD ?_ | refine gE ?_ | refine gF rfl ?_ | refine gG rfl ?_ | refine gH ?_ | refine gI ?_ | refine gJ ?_ | refine gK ?_ | refine gL ?_ | refine gM hC rfl ⟨⟩ ?_ | refine gM hC rfl (by exact sd) ?_
  rw [natAbs_max, natAbs_max]
  refine lwp_loop (fun s : Nat × Nat => ⟨[(0, i64 s.1), (1, i64 s.2)], [], 0⟩) (fun s => Nat.gcd s.1 s.2 = Int.gcd x y ∧ s.1 ≤ 10000000000000 ∧ s.2 ≤ 10000000000000) (fun s => s.2) (x.natAbs, y.natAbs) ⟨?_, sub_intro hm [] rfl ?_⟩ ?_
  · exact ⟨rfl, by show x.natAbs ≤ _; omega, by show y.natAbs ≤ _; omega⟩
  · exact sd
  · rintro ⟨p, q⟩ ⟨hg, hp, hq⟩
    dsimp only at hg hp hq ⊢
    repeat first | refine lwp_seq fun K hK => ?_ | ((with_reducible refine gA ?_); apply_assumption -exfalso -symm) | refine gB ?_ | refine gC ?_ | refine gD ?_ | refine gE ?_ | refine gF rfl ?_ | refine gG rfl ?_ | refine gH ?_ | refine gI ?_ | refine gJ ?_ | refine gK ?_ | refine gL ?_ | refine gM hC rfl ⟨⟩ ?_
    (refine lwp_cond hC rfl (by first | exact ⟨⟩ | exact sd) (fun hb => ?_) (fun hb => ?_) <;> (try simp only [decide_eq_true_eq, decide_eq_false_iff_not, Bool.not_eq_true', Bool.not_eq_false', ne_eq, Decidable.not_not] at hb))
    · have hq0 : 0 < q := by omega
      have hlt : p % q < q := Nat.mod_lt _ hq0
      have hgn : Nat.gcd q (p % q) = Int.gcd x y := by rw [← hg, Nat.gcd_comm q, ← Nat.gcd_rec, Nat.gcd_comm]
      have hmm : Int.tmod (p : Int) (q : Int) = ((p % q : Nat) : Int) := by rw [Int.tmod_eq_emod_of_nonneg (by omega)]; rfl
      repeat first | refine lwp_seq fun K hK => ?_ | ((with_reducible refine gA ?_); apply_assumption -exfalso -symm) | refine gB ?_ | refine gC ?_ | refine gD ?_ | refine gE ?_ | refine gF rfl ?_ | refine gG rfl ?_ | refine gH ?_ | refine gI ?_ | refine gJ ?_ | refine gK ?_ | refine gL ?_ | refine gM hC rfl ⟨⟩ ?_
      (refine lwp_drawn2 hC (by rw [hP]; exact mixed) ⟨[], [], []⟩ (told0 _ _) [0, 0, 0, 6, 3, 31] 4 12 rfl ?_ ?_; rotate_left 1)
      · repeat first | refine lwp_seq fun K hK => ?_ | ((with_reducible refine gA ?_); apply_assumption -exfalso -symm) | refine gB ?_ | refine gC ?_ | refine gD ?_ | refine gE ?_ | refine gF rfl ?_ | refine gG rfl ?_ | refine gH ?_ | refine gI ?_ | refine gJ ?_ | refine gK ?_ | refine gL ?_ | refine gM hC rfl ⟨⟩ ?_
        rw [hmm]
        refine gA ⟨(q, p % q), ?_, ?_, sub_intro hm [] rfl ?_⟩
        · exact ⟨hgn, hq, by show p % q ≤ _; omega⟩
        · exact hlt
        · exact sd
      · rw [hmm]
        exact sd
    · have hq0 : q = 0 := by omega
      rw [hq0, Nat.gcd_zero_right] at hg
      repeat first | refine lwp_seq fun K hK => ?_ | ((with_reducible refine gA ?_); apply_assumption -exfalso -symm) | refine gB ?_ | refine gC ?_ | refine gD ?_ | refine gE ?_ | refine gF rfl ?_ | refine gG rfl ?_ | refine gH ?_ | refine gI ?_ | refine gJ ?_ | refine gK ?_ | refine gL ?_ | refine gM hC rfl ⟨⟩ ?_
      (refine end_intro (by first | exact .inr rfl | exact .inl rfl) [] rfl ?_)
      rw [← hg]
      exact ⟨rfl, trivial⟩

/-! Quotients. -/
def numsS (x y : Int) : Int := firstS [withinS x (-999999999) 999999999, withinS y 1 999999999]
theorem numsS_zero {x y : Int} (h : numsS x y = 0) : (-999999999 ≤ x ∧ x ≤ 999999999) ∧ 1 ≤ y ∧ y ≤ 999999999 := by
  have h1 := (firstS_cons _ _).1 h
  exact ⟨withinS_zero.1 h1.1, withinS_zero.1 ((firstS_cons _ _).1 h1.2).1⟩
def ratS (x y : Int) : Int := if numsS x y = 0 then whenS (decide ((Int.gcd x y : Int) > 1)) 1 else numsS x y
theorem gcd_ne {x y : Int} (hy : 1 ≤ y) : decide ((Int.gcd x y : Int) ≠ 1) = decide ((Int.gcd x y : Int) > 1) := by
  have : 0 < Int.gcd x y := Int.gcd_pos_of_ne_zero_right _ (by omega)
  by_cases h : (Int.gcd x y : Int) > 1
  · rw [decide_eq_true h, decide_eq_true (by omega)]
  · rw [decide_eq_false h, decide_eq_false (by omega)]
def SRatio_i (x y : Int) : Inst := { f := 161, hin := [], args := [.agg [i64 x, i64 y]], hout := [], ret := i64 (ratS x y), σ := [] }
theorem SRatio_s (x y : Int) : (SRatio_i x y).ok Tryz.prog := by
  unfold SRatio_i Inst.ok; dsimp only; refine spec_of_body (tys := tys) 0 Tryz.func161 (by kernel_rfl) rfl tys_ok rfl (Nat.le_of_ble_eq_true rfl) (fun _ _ h => (by cases h)) fun F hP hm hC hrd => ?_; conv => whnf
  repeat first | refine lwp_seq fun K hK => ?_ | ((with_reducible refine gA ?_); apply_assumption -exfalso -symm) | refine gB ?_ | refine gC ?_ | refine gD ?_ | refine gE ?_ | refine gF rfl ?_ | refine gG rfl ?_ | refine gH ?_ | refine gI ?_ | refine gJ ?_ | refine gK ?_ | refine gL ?_ | refine gM hC rfl ⟨⟩ ?_ | refine gM hC rfl (by exact sd) ?_
  (refine lwp_drawn hC (by rw [hP]; exact mixed) ⟨[], [], [(2, SWithin_i x (-999999999) 999999999), (5, SWithin_i y 1 999999999), (7, SFirst_i [withinS x (-999999999) 999999999, withinS y 1 999999999] [(0, some 1)])]⟩ (told1 _ (by rw [hP]; exact (calls_cons (SWithin_s _ _ _) (calls_cons (SWithin_s _ _ _) (calls_cons (SFirst_s _ _ (by simp)) calls_nil))))) [0, 1, 3, 0, 8, 31, 63, 127, 255] 5 rfl ?_ ?_; rotate_left 1)
  · repeat first | refine lwp_seq fun K hK => ?_ | ((with_reducible refine gA ?_); apply_assumption -exfalso -symm) | refine gB ?_ | refine gC ?_ | refine gD ?_ | refine gE ?_ | refine gF rfl ?_ | refine gG rfl ?_ | refine gH ?_ | refine gI ?_ | refine gJ ?_ | refine gK ?_ | refine gL ?_ | refine gM hC rfl ⟨⟩ ?_ | refine gM hC rfl (by exact sd) ?_
    (refine lwp_cond hC rfl (by first | exact ⟨⟩ | exact sd) (fun hb => ?_) (fun hb => ?_) <;> (try simp only [decide_eq_true_eq, decide_eq_false_iff_not, Bool.not_eq_true', Bool.not_eq_false', ne_eq, Decidable.not_not] at hb))
    · repeat first | refine lwp_seq fun K hK => ?_ | ((with_reducible refine gA ?_); apply_assumption -exfalso -symm) | refine gB ?_ | refine gC ?_ | refine gD ?_ | refine gE ?_ | refine gF rfl ?_ | refine gG rfl ?_ | refine gH ?_ | refine gI ?_ | refine gJ ?_ | refine gK ?_ | refine gL ?_ | refine gM hC rfl ⟨⟩ ?_ | refine gM hC rfl (by exact sd) ?_
      (refine end_intro (by first | exact .inr rfl | exact .inl rfl) [] rfl ?_)
      refine ⟨?_, trivial⟩
      show ratS x y = _
      unfold ratS
      rw [if_neg (show ¬ numsS x y = 0 from hb)]
      rfl
    · have hz := numsS_zero (x := x) (y := y) hb
      repeat first | refine lwp_seq fun K hK => ?_ | ((with_reducible refine gA ?_); apply_assumption -exfalso -symm) | refine gB ?_ | refine gC ?_ | refine gD ?_ | refine gE ?_ | refine gF rfl ?_ | refine gG rfl ?_ | refine gH ?_ | refine gI ?_ | refine gJ ?_ | refine gK ?_ | refine gL ?_ | refine gM hC rfl ⟨⟩ ?_ | refine gM hC rfl (by exact sd) ?_
      (refine lwp_region hC ⟨[], [], [(4, Common_i x y), (6, SWhen_i (decide ((Int.gcd x y : Int) > 1)) 1)]⟩ (told1 _ (by rw [hP]; exact (calls_cons (Common_s _ _ (by omega) (by omega)) (calls_cons (SWhen_s _ _) calls_nil)))) rfl ?_ ?_; rotate_left 1)
      · repeat first | refine lwp_seq fun K hK => ?_ | ((with_reducible refine gA ?_); apply_assumption -exfalso -symm) | refine gB ?_ | refine gC ?_ | refine gD ?_ | refine gE ?_ | refine gF rfl ?_ | refine gG rfl ?_ | refine gH ?_ | refine gI ?_ | refine gJ ?_ | refine gK ?_ | refine gL ?_ | refine gM hC rfl ⟨⟩ ?_ | refine gM hC rfl (by exact sd) ?_
        (refine end_intro (by first | exact .inr rfl | exact .inl rfl) [] rfl ?_)
        refine ⟨?_, trivial⟩
        show ratS x y = _
        unfold ratS
        rw [if_pos (show numsS x y = 0 from hb)]
      · exact sd
  · exact sd
def RRatio_i (x y : Int) : Inst := { f := 71, hin := [], args := [.agg [i64 x, i64 y]], hout := [], ret := i64 (ratS x y), σ := [] }
theorem RRatio_s (x y : Int) : (RRatio_i x y).ok Tryz.prog := by
  unfold RRatio_i Inst.ok; dsimp only; refine spec_of_body (tys := tys) 0 Tryz.func71 (by kernel_rfl) rfl tys_ok rfl (Nat.le_of_ble_eq_true rfl) (fun _ _ h => (by cases h)) fun F hP hm hC hrd => ?_; conv => whnf
  repeat first | refine lwp_seq fun K hK => ?_ | ((with_reducible refine gA ?_); apply_assumption -exfalso -symm) | refine gB ?_ | refine gC ?_ | refine gD ?_ | refine gE ?_ | refine gF rfl ?_ | refine gG rfl ?_ | refine gH ?_ | refine gI ?_ | refine gJ ?_ | refine gK ?_ | refine gL ?_ | refine gM hC rfl ⟨⟩ ?_ | refine gM hC rfl (by exact sd) ?_
  (refine lwp_drawn hC (by rw [hP]; exact mixed) ⟨[], [], [(2, CheckRange_i x (-999999999) 999999999), (5, CheckRange_i y 1 999999999), (7, First_i [withinS x (-999999999) 999999999, withinS y 1 999999999] [(0, some 1)])]⟩ (told1 _ (by rw [hP]; exact (calls_cons (CheckRange_s _ _ _) (calls_cons (CheckRange_s _ _ _) (calls_cons (First_s _ _ (by simp)) calls_nil))))) [0, 1, 3, 0, 8, 31, 63, 127, 255] 5 rfl ?_ ?_; rotate_left 1)
  · repeat first | refine lwp_seq fun K hK => ?_ | ((with_reducible refine gA ?_); apply_assumption -exfalso -symm) | refine gB ?_ | refine gC ?_ | refine gD ?_ | refine gE ?_ | refine gF rfl ?_ | refine gG rfl ?_ | refine gH ?_ | refine gI ?_ | refine gJ ?_ | refine gK ?_ | refine gL ?_ | refine gM hC rfl ⟨⟩ ?_ | refine gM hC rfl (by exact sd) ?_
    (refine lwp_cond hC rfl (by first | exact ⟨⟩ | exact sd) (fun hb => ?_) (fun hb => ?_) <;> (try simp only [decide_eq_true_eq, decide_eq_false_iff_not, Bool.not_eq_true', Bool.not_eq_false', ne_eq, Decidable.not_not] at hb))
    · repeat first | refine lwp_seq fun K hK => ?_ | ((with_reducible refine gA ?_); apply_assumption -exfalso -symm) | refine gB ?_ | refine gC ?_ | refine gD ?_ | refine gE ?_ | refine gF rfl ?_ | refine gG rfl ?_ | refine gH ?_ | refine gI ?_ | refine gJ ?_ | refine gK ?_ | refine gL ?_ | refine gM hC rfl ⟨⟩ ?_ | refine gM hC rfl (by exact sd) ?_
      (refine end_intro (by first | exact .inr rfl | exact .inl rfl) [] rfl ?_)
      refine ⟨?_, trivial⟩
      show ratS x y = _
      unfold ratS
      rw [if_neg (show ¬ numsS x y = 0 from hb)]
      rfl
    · have hz := numsS_zero (x := x) (y := y) hb
      repeat first | refine lwp_seq fun K hK => ?_ | ((with_reducible refine gA ?_); apply_assumption -exfalso -symm) | refine gB ?_ | refine gC ?_ | refine gD ?_ | refine gE ?_ | refine gF rfl ?_ | refine gG rfl ?_ | refine gH ?_ | refine gI ?_ | refine gJ ?_ | refine gK ?_ | refine gL ?_ | refine gM hC rfl ⟨⟩ ?_ | refine gM hC rfl (by exact sd) ?_
      (refine lwp_region hC ⟨[], [], [(4, RDiv_i x y), (6, When_i (decide ((Int.gcd x y : Int) ≠ 1)) 1)]⟩ (told1 _ (by rw [hP]; exact (calls_cons (RDiv_s _ _ (by omega) (by omega)) (calls_cons (When_s _ _) calls_nil)))) rfl ?_ ?_; rotate_left 1)
      · repeat first | refine lwp_seq fun K hK => ?_ | ((with_reducible refine gA ?_); apply_assumption -exfalso -symm) | refine gB ?_ | refine gC ?_ | refine gD ?_ | refine gE ?_ | refine gF rfl ?_ | refine gG rfl ?_ | refine gH ?_ | refine gI ?_ | refine gJ ?_ | refine gK ?_ | refine gL ?_ | refine gM hC rfl ⟨⟩ ?_ | refine gM hC rfl (by exact sd) ?_
        (refine end_intro (by first | exact .inr rfl | exact .inl rfl) [] rfl ?_)
        refine ⟨?_, trivial⟩
        show ratS x y = _
        unfold ratS
        rw [if_pos (show numsS x y = 0 from hb), gcd_ne hz.2.1]
      · exact sd
  · exact sd
def priceS (x y : Int) : Int := firstS [ratS x y, whenS (decide (x < 0)) 3]
def Price_i (x y : Int) : Inst := { f := 101, hin := [], args := [.agg [i64 x, i64 y]], hout := [], ret := i64 (priceS x y), σ := [] }
theorem Price_s (x y : Int) : (Price_i x y).ok Tryz.prog := by
  unfold Price_i Inst.ok; dsimp only; refine spec_of_body (tys := tys) 0 Tryz.func101 (by kernel_rfl) rfl tys_ok rfl (Nat.le_of_ble_eq_true rfl) (fun _ _ h => (by cases h)) fun F hP hm hC hrd => ?_; conv => whnf
  repeat first | refine lwp_seq fun K hK => ?_ | ((with_reducible refine gA ?_); apply_assumption -exfalso -symm) | refine gB ?_ | refine gC ?_ | refine gD ?_ | refine gE ?_ | refine gF rfl ?_ | refine gG rfl ?_ | refine gH ?_ | refine gI ?_ | refine gJ ?_ | refine gK ?_ | refine gL ?_ | refine gM hC rfl ⟨⟩ ?_ | refine gM hC rfl (by exact sd) ?_
  (refine lwp_drawn hC (by rw [hP]; exact mixed) ⟨[], [], [(1, SRatio_i x y), (5, PWhen_i (decide (x < 0)) 3), (7, PFirst_i [ratS x y, whenS (decide (x < 0)) 3] [(0, some 1)])]⟩ (told1 _ (by rw [hP]; exact (calls_cons (SRatio_s _ _) (calls_cons (PWhen_s _ _) (calls_cons (PFirst_s _ _ (by simp)) calls_nil))))) [0, 1, 0, 4, 12, 31, 63, 127, 255] 5 rfl ?_ ?_; rotate_left 1)
  · repeat first | refine lwp_seq fun K hK => ?_ | ((with_reducible refine gA ?_); apply_assumption -exfalso -symm) | refine gB ?_ | refine gC ?_ | refine gD ?_ | refine gE ?_ | refine gF rfl ?_ | refine gG rfl ?_ | refine gH ?_ | refine gI ?_ | refine gJ ?_ | refine gK ?_ | refine gL ?_ | refine gM hC rfl ⟨⟩ ?_ | refine gM hC rfl (by exact sd) ?_
    (refine end_intro (by first | exact .inr rfl | exact .inl rfl) [] rfl ?_)
    exact ⟨rfl, trivial⟩
  · exact sd
theorem floor_tdiv (n d : Int) (hd : 0 < d) : n / d = if n.tdiv d * d > n then n.tdiv d - 1 else n.tdiv d := by
  have e := Int.tdiv_eq_ediv (a := n) (b := d)
  have h1 := Int.emod_add_mul_ediv n d
  have h2 := Int.emod_nonneg n (show d ≠ 0 by omega)
  have h3 := Int.emod_lt_of_pos n hd
  have hs : d.sign = 1 := Int.sign_eq_one_of_pos hd
  rw [hs] at e
  have hc : d * (n / d) = n / d * d := Int.mul_comm _ _
  by_cases h : 0 ≤ n ∨ d ∣ n
  · rw [if_pos h] at e
    rw [if_neg]
    · omega
    · rw [show n.tdiv d = n / d by omega]; omega
  · rw [if_neg h] at e
    have h4 : n.tdiv d * d = n / d * d + d := by rw [e, Int.add_mul, Int.one_mul]
    rw [if_pos]
    · omega
    · omega
def Floor_i (n d : Int) : Inst := { f := 108, hin := [], args := [i64 n, i64 d], hout := [], ret := i64 (n / d), σ := [] }
theorem Floor_s (n d : Int) (hn : -4000000000000000000 ≤ n ∧ n ≤ 4000000000000000000) (hd : 0 < d ∧ d ≤ 1000000000000) : (Floor_i n d).ok Tryz.prog := by
  have e := floor_tdiv n d hd.1
  have h1 := Int.emod_add_mul_ediv n d
  have h2 := Int.emod_nonneg n (show d ≠ 0 by omega)
  have h3 := Int.emod_lt_of_pos n hd.1
  have hc : d * (n / d) = n / d * d := Int.mul_comm _ _
  have hq : -4000000000000000000 ≤ n.tdiv d ∧ n.tdiv d ≤ 4000000000000000000 := by
    have h4 := Int.natAbs_tdiv_le_natAbs n d
    omega
  have hm : -4000001000000000000 ≤ n.tdiv d * d ∧ n.tdiv d * d ≤ 4000001000000000000 := by
    by_cases h : n.tdiv d * d > n
    · rw [if_pos h] at e
      have h5 : n / d * d = n.tdiv d * d - d := by rw [e, Int.sub_mul, Int.one_mul]
      omega
    · rw [if_neg h] at e
      rw [← e]; omega
  unfold Floor_i Inst.ok; dsimp only; refine spec_of_body (tys := tys) 0 Tryz.func108 (by kernel_rfl) rfl tys_ok rfl (Nat.le_of_ble_eq_true rfl) (fun _ _ h => (by cases h)) fun F hP hm hC hrd => ?_; conv => whnf
  repeat first | refine lwp_seq fun K hK => ?_ | ((with_reducible refine gA ?_); apply_assumption -exfalso -symm) | refine gB ?_ | refine gC ?_ | refine gD ?_ | refine gE ?_ | refine gF rfl ?_ | refine gG rfl ?_ | refine gH ?_ | refine gI ?_ | refine gJ ?_ | refine gK ?_ | refine gL ?_ | refine gM hC rfl ⟨⟩ ?_
  (refine lwp_region hC ⟨[], [], []⟩ (told0 _ _) rfl ?_ ?_; rotate_left 1)
  · repeat first | refine lwp_seq fun K hK => ?_ | ((with_reducible refine gA ?_); apply_assumption -exfalso -symm) | refine gB ?_ | refine gC ?_ | refine gD ?_ | refine gE ?_ | refine gF rfl ?_ | refine gG rfl ?_ | refine gH ?_ | refine gI ?_ | refine gJ ?_ | refine gK ?_ | refine gL ?_ | refine gM hC rfl ⟨⟩ ?_
    (refine lwp_region hC ⟨[], [], []⟩ (told0 _ _) rfl ?_ ?_; rotate_left 1)
    · repeat first | refine lwp_seq fun K hK => ?_ | ((with_reducible refine gA ?_); apply_assumption -exfalso -symm) | refine gB ?_ | refine gC ?_ | refine gD ?_ | refine gE ?_ | refine gF rfl ?_ | refine gG rfl ?_ | refine gH ?_ | refine gI ?_ | refine gJ ?_ | refine gK ?_ | refine gL ?_ | refine gM hC rfl ⟨⟩ ?_
      (refine lwp_cond hC rfl (by first | exact ⟨⟩ | exact sd) (fun hb => ?_) (fun hb => ?_) <;> (try simp only [decide_eq_true_eq, decide_eq_false_iff_not, Bool.not_eq_true', Bool.not_eq_false', ne_eq, Decidable.not_not] at hb))
      · rw [if_pos hb] at e
        repeat first | refine lwp_seq fun K hK => ?_ | ((with_reducible refine gA ?_); apply_assumption -exfalso -symm) | refine gB ?_ | refine gC ?_ | refine gD ?_ | refine gE ?_ | refine gF rfl ?_ | refine gG rfl ?_ | refine gH ?_ | refine gI ?_ | refine gJ ?_ | refine gK ?_ | refine gL ?_ | refine gM hC rfl ⟨⟩ ?_
        (refine lwp_region hC ⟨[], [], []⟩ (told0 _ _) rfl ?_ ?_; rotate_left 1)
        · repeat first | refine lwp_seq fun K hK => ?_ | ((with_reducible refine gA ?_); apply_assumption -exfalso -symm) | refine gB ?_ | refine gC ?_ | refine gD ?_ | refine gE ?_ | refine gF rfl ?_ | refine gG rfl ?_ | refine gH ?_ | refine gI ?_ | refine gJ ?_ | refine gK ?_ | refine gL ?_ | refine gM hC rfl ⟨⟩ ?_
          (refine end_intro (by first | exact .inr rfl | exact .inl rfl) [] rfl ?_)
          rw [e]
          exact ⟨rfl, trivial⟩
        · exact sd
      · rw [if_neg hb] at e
        repeat first | refine lwp_seq fun K hK => ?_ | ((with_reducible refine gA ?_); apply_assumption -exfalso -symm) | refine gB ?_ | refine gC ?_ | refine gD ?_ | refine gE ?_ | refine gF rfl ?_ | refine gG rfl ?_ | refine gH ?_ | refine gI ?_ | refine gJ ?_ | refine gK ?_ | refine gL ?_ | refine gM hC rfl ⟨⟩ ?_
        (refine end_intro (by first | exact .inr rfl | exact .inl rfl) [] rfl ?_)
        rw [e]
        exact ⟨rfl, trivial⟩
    · exact sd
  · exact sd

end Go.Proofs.YtccddhoeampdjaaGreatDoor
