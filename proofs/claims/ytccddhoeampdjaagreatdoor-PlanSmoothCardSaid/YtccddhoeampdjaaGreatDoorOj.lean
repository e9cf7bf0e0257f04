/- Chapter 9: the bound that prices prove: the program's. -/
import Derived.Test.YtccddhoeampdjaaGreatDoorOe
import Derived.Test.YtccddhoeampdjaaGreatDoorPb
import Derived.Test.YtccddhoeampdjaaGreatDoorPo
set_option linter.unusedVariables false
set_option linter.unusedSimpArgs false
namespace Go.Proofs.YtccddhoeampdjaaGreatDoor
open Go.RowKit Go.Sym

theorem mul_in {x y A B : Int} (hx : -A ≤ x ∧ x ≤ A) (hy : -B ≤ y ∧ y ≤ B) : -(A * B) ≤ x * y ∧ x * y ≤ A * B := by
  have h1 : x.natAbs ≤ A.toNat := by omega
  have h2 : y.natAbs ≤ B.toNat := by omega
  have h3 := Nat.mul_le_mul h1 h2
  rw [← Int.natAbs_mul] at h3
  have h4 : ((A.toNat * B.toNat : Nat) : Int) = A * B := by
    rw [Int.natCast_mul, Int.toNat_of_nonneg (by omega), Int.toNat_of_nonneg (by omega)]
  omega
def z2D : Z2 := ⟨0, 1⟩
def z2C (l : List Z2) : Cont := genL z2V z2D 2 l
theorem z2C_cells (l : List Z2) : (z2C l).cells = (l.flatMap z2V).map AV.lit := genL_cells (f := z2V) (fun _ => rfl) l
def priceOf (p : Z2) : Int := priceS p.x p.y
def pricesL (l : List Z2) : List Int := l.map priceOf
theorem pricesL_len (l : List Z2) : (pricesL l).length = l.length := by simp [pricesL]
theorem pricesL_take (l : List Z2) (k : Nat) (h : k < l.length) : pricesL (l.take (k + 1)) = pricesL (l.take k) ++ [priceS (l.getD k z2D).x (l.getD k z2D).y] := by
  rw [take_snoc l z2D k h]; simp [pricesL, priceOf]
theorem pricesL_zero {l : List Z2} (h : firstS (pricesL l) = 0) : ∀ k, k < l.length → priceS (l.getD k z2D).x (l.getD k z2D).y = 0 := by
  have key : ∀ l : List Z2, firstS (pricesL l) = 0 → ∀ r ∈ l, priceOf r = 0 := by
    intro l
    induction l with
    | nil => intro _ x hx; cases hx
    | cons a l ih =>
      intro h x hx
      have h1 := (firstS_cons _ _).1 h
      rcases List.mem_cons.1 hx with rfl | hx
      · exact h1.1
      · exact ih h1.2 x hx
  intro k hk
  have := key l h (l.getD k z2D) (by rw [List.getD_eq_getElem?_getD, List.getElem?_eq_getElem hk]; exact List.getElem_mem hk)
  exact this
def PrMap_i (l : List Z2) (σ : Ren) : Inst := { f := 100, hin := [(0, .ro l.length 2 (z2C l))], args := [.sl 0 l.length, .fn 101 [] []], hout := [(1, .row 31 l.length 1 (.ints .i64 (pricesL l)))], ret := .sl 1 l.length, σ := σ }
theorem PrMap_s (l : List Z2) (σ : Ren) (hl : l.length ≤ 1000000) : (PrMap_i l σ).ok Tryz.prog := by
  unfold PrMap_i Inst.ok; dsimp only; refine spec_of_body (tys := tys) 1 Tryz.func100 (by kernel_rfl) rfl tys_ok rfl (Nat.le_of_ble_eq_true rfl) (fun _ _ h => (by cases h)) fun F hP hm hC hrd => ?_; conv => whnf
  repeat first | refine lwp_seq fun K hK => ?_ | (with_reducible refine gA ?_; apply_assumption -exfalso -symm) | refine Stp.h ?_ | refine gF rfl ?_ | refine gG rfl ?_ | refine gM hC rfl sd ?_
  refine lwp_loop (fun k : Nat => ⟨[(10, i64 k), (9, i64 l.length), (8, .sl 0 l.length), (5, .sl 1 k), (1, .fn 101 [] [])], [(1, .row 31 k 1 (.ints .i64 (pricesL (l.take k)))), (0, .ro l.length 2 (z2C l))], 2⟩) (fun k => k ≤ l.length) (fun k => l.length - k) 0 ⟨?_, sub_intro hm [(0, some 0), (1, none)] rfl ?_⟩ ?_
  · exact Nat.zero_le _
  · exact sd
  · rintro k hk
    repeat first | refine lwp_seq fun K hK => ?_ | (with_reducible refine gA ?_; apply_assumption -exfalso -symm) | refine Stp.h ?_ | refine gF rfl ?_ | refine gG rfl ?_ | refine gM hC rfl sd ?_
    refine lwp_condS hC rfl sd ?_ ?_ <;> intro hb
    · repeat first | refine lwp_seq fun K hK => ?_ | (with_reducible refine gA ?_; apply_assumption -exfalso -symm) | refine Stp.h ?_ | refine gF rfl ?_ | refine gG rfl ?_ | refine gM hC rfl sd ?_
      rw [Int.toNat_natCast]
      (refine lwp_region hC ⟨[], [], [(3, Price_i (l.getD k z2D).x (l.getD k z2D).y)]⟩ (told1 _ (by rw [hP]; exact (calls_cons (Price_s _ _) calls_nil))) rfl ?_ ?_; rotate_left 1)
      · repeat first | refine lwp_seq fun K hK => ?_ | (with_reducible refine gA ?_; apply_assumption -exfalso -symm) | refine Stp.h ?_ | refine gF rfl ?_ | refine gG rfl ?_ | refine gM hC rfl sd ?_
        refine gA ⟨k + 1, ?_, ?_, sub_intro hm [(0, some 0), (1, some 5)] rfl ?_⟩
        · omega
        · omega
        · have e := pricesL_take l k (by omega)
          exact sd
      · exact sd
    · repeat first | refine lwp_seq fun K hK => ?_ | (with_reducible refine gA ?_; apply_assumption -exfalso -symm) | refine Stp.h ?_ | refine gF rfl ?_ | refine gG rfl ?_ | refine gM hC rfl sd ?_
      (refine end_intro (by first | exact .inr rfl | exact .inl rfl) [(1, some 1)] rfl ?_)
      obtain rfl : k = l.length := by omega
      rw [List.take_of_length_le (by omega)]
      exact sd
def bigB (p : Z2) : Bool := decide (p.y > 12)
def Big_i (x y : Int) : Inst := { f := 103, hin := [], args := [.agg [i64 x, i64 y]], hout := [], ret := bl (decide (y > 12)), σ := [] }
theorem Big_s (x y : Int) : (Big_i x y).ok Tryz.prog := by
  unfold Big_i Inst.ok; dsimp only; refine spec_of_body (tys := tys) 0 Tryz.func103 (by kernel_rfl) rfl tys_ok rfl (Nat.le_of_ble_eq_true rfl) (fun _ _ h => (by cases h)) fun F hP hm hC hrd => ?_; conv => whnf
  repeat first | refine lwp_seq fun K hK => ?_ | (with_reducible refine gA ?_; apply_assumption -exfalso -symm) | refine Stp.h ?_ | refine gF rfl ?_ | refine gG rfl ?_ | refine gM hC rfl sd ?_
  (refine end_intro (by first | exact .inr rfl | exact .inl rfl) [] rfl ?_)
  exact ⟨rfl, trivial⟩
def IxB_i (l : List Z2) (σ : Ren) : Inst := { f := 162, hin := [(0, .ro l.length 2 (z2C l))], args := [.sl 0 l.length, .fn 103 [] []], hout := [], ret := i64 (idxF bigB l), σ := σ }
set_option maxRecDepth 20000 in
theorem IxB_s (l : List Z2) (σ : Ren) (hl : l.length ≤ 1000000) : (IxB_i l σ).ok Tryz.prog := by
  unfold IxB_i Inst.ok; dsimp only; refine spec_of_body (tys := tys) 1 Tryz.func162 (by kernel_rfl) rfl tys_ok rfl (Nat.le_of_ble_eq_true rfl) (fun _ _ h => (by cases h)) fun F hP hm hC hrd => ?_; conv => whnf
  repeat first | refine lwp_seq fun K hK => ?_ | (with_reducible refine gA ?_; apply_assumption -exfalso -symm) | refine Stp.h ?_ | refine gF rfl ?_ | refine gG rfl ?_ | refine gM hC rfl sd ?_
  refine lwp_loop (fun k : Nat => ⟨[(8, i64 k), (7, i64 l.length), (0, .sl 0 l.length), (1, .fn 103 [] [])], [(0, .ro l.length 2 (z2C l))], 1⟩) (fun k => k ≤ l.length ∧ ∀ i : Nat, i < k → bigB (l.getD i z2D) = false) (fun k => l.length - k) 0 ⟨?_, sub_intro hm [(0, some 0)] rfl ?_⟩ ?_
  · exact ⟨Nat.zero_le _, fun i hi => absurd hi (Nat.not_lt_zero _)⟩
  · exact sd
  · rintro k ⟨hk, hf⟩
    have hkk : ((k : Int)).toNat = k := Int.toNat_natCast k
    have HF := Lib.hid hf
    clear hf
    repeat first | refine lwp_seq fun K hK => ?_ | (with_reducible refine gA ?_; apply_assumption -exfalso -symm) | refine Stp.h ?_ | refine gF rfl ?_ | refine gG rfl ?_ | refine gM hC rfl sd ?_
    refine lwp_condS hC rfl sd ?_ ?_ <;> intro hb
    · have hk2 : k < l.length := by omega
      repeat first | refine lwp_seq fun K hK => ?_ | (with_reducible refine gA ?_; apply_assumption -exfalso -symm) | refine Stp.h ?_ | refine gF rfl ?_ | refine gG rfl ?_ | refine gM hC rfl ⟨⟩ ?_
      (refine lwp_region hC ⟨[], [], [(5, Big_i (l.getD k z2D).x (l.getD k z2D).y)]⟩ (told1 _ (by rw [hP]; exact (calls_cons (Big_s _ _) calls_nil))) rfl ?_ ?_; rotate_left 1)
      · repeat first | refine lwp_seq fun K hK => ?_ | (with_reducible refine gA ?_; apply_assumption -exfalso -symm) | refine Stp.h ?_ | refine gF rfl ?_ | refine gG rfl ?_ | refine gM hC rfl sd ?_
        refine lwp_condS hC rfl sd ?_ ?_ <;> intro hb
        · have hE := idxF_hit hk2 (show bigB (l.getD k z2D) = true from decide_eq_true hb) HF.out
          repeat first | refine lwp_seq fun K hK => ?_ | (with_reducible refine gA ?_; apply_assumption -exfalso -symm) | refine Stp.h ?_ | refine gF rfl ?_ | refine gG rfl ?_ | refine gM hC rfl sd ?_
          (refine end_intro (by first | exact .inr rfl | exact .inl rfl) [] rfl ?_)
          rw [hE]
          exact sd
        · repeat first | refine lwp_seq fun K hK => ?_ | (with_reducible refine gA ?_; apply_assumption -exfalso -symm) | refine Stp.h ?_ | refine gF rfl ?_ | refine gG rfl ?_ | refine gM hC rfl sd ?_
          refine gA ⟨k + 1, ?_, ?_, sub_intro hm [(0, some 0)] rfl ?_⟩
          · refine ⟨hk2, fun i hi => ?_⟩
            by_cases e : i = k
            · subst e; exact decide_eq_false hb
            · exact HF.out i (by omega)
          · omega
          · exact sd
      · rw [hkk]
        exact sd
    · have hk3 : k = l.length := by omega
      subst hk3
      have hE := idxF_none HF.out
      repeat first | refine lwp_seq fun K hK => ?_ | (with_reducible refine gA ?_; apply_assumption -exfalso -symm) | refine Stp.h ?_ | refine gF rfl ?_ | refine gG rfl ?_ | refine gM hC rfl sd ?_
      (refine end_intro (by first | exact .inr rfl | exact .inl rfl) [] rfl ?_)
      rw [hE]
      exact sd
def CfB_i (l : List Z2) (σ : Ren) : Inst := { f := 102, hin := [(0, .ro l.length 2 (z2C l))], args := [.sl 0 l.length, .fn 103 [] []], hout := [], ret := bl (l.any bigB), σ := σ }
theorem CfB_s (l : List Z2) (σ : Ren) (hl : l.length ≤ 1000000) : (CfB_i l σ).ok Tryz.prog := by
  have hsg := idxF_sign bigB l
  unfold CfB_i Inst.ok; dsimp only; refine spec_of_body (tys := tys) 1 Tryz.func102 (by kernel_rfl) rfl tys_ok rfl (Nat.le_of_ble_eq_true rfl) (fun _ _ h => (by cases h)) fun F hP hm hC hrd => ?_; conv => whnf
  repeat first | refine lwp_seq fun K hK => ?_ | (with_reducible refine gA ?_; apply_assumption -exfalso -symm) | refine Stp.h ?_ | refine gF rfl ?_ | refine gG rfl ?_ | refine gM hC rfl ⟨⟩ ?_
  (refine lwp_region hC ⟨[], [], [(2, IxB_i l [(0, some 0)])]⟩ (told1 _ (by rw [hP]; exact (calls_cons (IxB_s _ _ hl) calls_nil))) rfl ?_ ?_; rotate_left 1)
  · repeat first | refine lwp_seq fun K hK => ?_ | (with_reducible refine gA ?_; apply_assumption -exfalso -symm) | refine Stp.h ?_ | refine gF rfl ?_ | refine gG rfl ?_ | refine gM hC rfl sd ?_
    (refine end_intro (by first | exact .inr rfl | exact .inl rfl) [] rfl ?_)
    refine ⟨?_, trivial⟩
    exact hsg.symm
  · exact sd
/-- A price in parts. -/
def cZ (p : Z2) : Int := p.x * (27720 / p.y)
def costsL (l : List Z2) : List Int := l.map cZ
theorem costsL_len (l : List Z2) : (costsL l).length = l.length := by simp [costsL]
theorem costsL_take (l : List Z2) (k : Nat) (h : k < l.length) : costsL (l.take (k + 1)) = costsL (l.take k) ++ [cZ (l.getD k z2D)] := by
  rw [take_snoc l z2D k h]; simp [costsL]
theorem costsL_getD (l : List Z2) {k : Nat} (h : k < l.length) : (costsL l).getD k 0 = cZ (l.getD k z2D) := by
  unfold costsL; exact map_at cZ z2D 0 l k h
structure PrB (p : Z2) : Prop where
  hx : 0 ≤ p.x ∧ p.x ≤ 999999999
  hy : 1 ≤ p.y ∧ p.y ≤ 12
  hc : 0 ≤ cZ p ∧ cZ p ≤ 27719999972280
  hd : cZ p * p.y = p.x * 27720
  dv : p.y ∣ 27720
theorem prB {p : Z2} (h : priceS p.x p.y = 0) (hb : bigB p = false) : PrB p := by
  have h1 := (firstS_cons _ _).1 h
  have hx := of_decide_eq_false ((whenS_zero (by decide)).1 ((firstS_cons _ _).1 h1.2).1)
  have hn : numsS p.x p.y = 0 := by
    rcases Decidable.em (numsS p.x p.y = 0) with h | h
    · exact h
    · have := h1.1
      unfold ratS at this
      rwa [if_neg h] at this
  have hn := numsS_zero hn
  have hb := of_decide_eq_false hb
  have hy : 1 ≤ p.y ∧ p.y ≤ 12 := by omega
  have hdv : p.y ∣ 27720 := by
    have : p.y = 1 ∨ p.y = 2 ∨ p.y = 3 ∨ p.y = 4 ∨ p.y = 5 ∨ p.y = 6 ∨ p.y = 7 ∨ p.y = 8 ∨ p.y = 9 ∨ p.y = 10 ∨ p.y = 11 ∨ p.y = 12 := by omega
    rcases this with e | e | e | e | e | e | e | e | e | e | e | e <;> rw [e] <;> decide
  have h2 : 27720 / p.y * p.y = 27720 := Int.ediv_mul_cancel hdv
  have h3 : 0 ≤ 27720 / p.y := Int.ediv_nonneg (by decide) (by omega)
  have h4 : 27720 / p.y ≤ 27720 := Int.ediv_le_self _ (by decide)
  refine ⟨by omega, hy, ⟨Int.mul_nonneg (by omega) h3, ?_⟩, ?_, hdv⟩
  · have := Int.mul_le_mul (show p.x ≤ 999999999 by omega) h4 h3 (by decide)
    unfold cZ; omega
  · unfold cZ
    rw [Int.mul_assoc, h2]
def Cost_i (p : Z2) : Inst := { f := 105, hin := [], args := [.agg [i64 p.x, i64 p.y]], hout := [], ret := i64 (cZ p), σ := [] }
theorem Cost_s (p : Z2) (hp : PrB p) : (Cost_i p).ok Tryz.prog := by
  obtain ⟨hx, hy, hc, _, _⟩ := hp
  have e : Int.tdiv 27720 p.y = 27720 / p.y := Int.tdiv_eq_ediv_of_nonneg (by decide)
  have h3 : 0 ≤ 27720 / p.y := Int.ediv_nonneg (by decide) (by omega)
  have h4 : 27720 / p.y ≤ 27720 := Int.ediv_le_self _ (by decide)
  have hcc : p.x * (27720 / p.y) = cZ p := rfl
  unfold Cost_i Inst.ok; dsimp only; refine spec_of_body (tys := tys) 0 Tryz.func105 (by kernel_rfl) rfl tys_ok rfl (Nat.le_of_ble_eq_true rfl) (fun _ _ h => (by cases h)) fun F hP hm hC hrd => ?_; conv => whnf
  repeat first | refine lwp_seq fun K hK => ?_ | (with_reducible refine gA ?_; apply_assumption -exfalso -symm) | refine Stp.h ?_ | refine gF rfl ?_ | refine gG rfl ?_ | refine gM hC rfl ⟨⟩ ?_
  (refine lwp_drawn hC (by rw [hP]; exact mixed) ⟨[], [], []⟩ (told0 _ _) [0, 1, 0, 4, 12, 31, 63] 5 rfl ?_ ?_; rotate_left 1)
  · rw [e, hcc]
    repeat first | refine lwp_seq fun K hK => ?_ | (with_reducible refine gA ?_; apply_assumption -exfalso -symm) | refine Stp.h ?_ | refine gF rfl ?_ | refine gG rfl ?_ | refine gM hC rfl sd ?_
    (refine end_intro (by first | exact .inr rfl | exact .inl rfl) [] rfl ?_)
    exact ⟨rfl, trivial⟩
  · rw [e, hcc]
    exact sd
def CMap_i (l : List Z2) (σ : Ren) : Inst := { f := 104, hin := [(0, .ro l.length 2 (z2C l))], args := [.sl 0 l.length, .fn 105 [] []], hout := [(1, .row 3 l.length 1 (.ints .i64 (costsL l)))], ret := .sl 1 l.length, σ := σ }
theorem CMap_s (l : List Z2) (σ : Ren) (hl : l.length ≤ 1000000) (hp : ∀ k, k < l.length → PrB (l.getD k z2D)) : (CMap_i l σ).ok Tryz.prog := by
  unfold CMap_i Inst.ok; dsimp only; refine spec_of_body (tys := tys) 1 Tryz.func104 (by kernel_rfl) rfl tys_ok rfl (Nat.le_of_ble_eq_true rfl) (fun _ _ h => (by cases h)) fun F hP hm hC hrd => ?_; conv => whnf
  repeat first | refine lwp_seq fun K hK => ?_ | (with_reducible refine gA ?_; apply_assumption -exfalso -symm) | refine Stp.h ?_ | refine gF rfl ?_ | refine gG rfl ?_ | refine gM hC rfl sd ?_
  refine lwp_loop (fun k : Nat => ⟨[(10, i64 k), (9, i64 l.length), (8, .sl 0 l.length), (5, .sl 1 k), (1, .fn 105 [] [])], [(1, .row 3 k 1 (.ints .i64 (costsL (l.take k)))), (0, .ro l.length 2 (z2C l))], 2⟩) (fun k => k ≤ l.length) (fun k => l.length - k) 0 ⟨?_, sub_intro hm [(0, some 0), (1, none)] rfl ?_⟩ ?_
  · exact Nat.zero_le _
  · exact sd
  · rintro k hk
    repeat first | refine lwp_seq fun K hK => ?_ | (with_reducible refine gA ?_; apply_assumption -exfalso -symm) | refine Stp.h ?_ | refine gF rfl ?_ | refine gG rfl ?_ | refine gM hC rfl sd ?_
    refine lwp_condS hC rfl sd ?_ ?_ <;> intro hb
    · repeat first | refine lwp_seq fun K hK => ?_ | (with_reducible refine gA ?_; apply_assumption -exfalso -symm) | refine Stp.h ?_ | refine gF rfl ?_ | refine gG rfl ?_ | refine gM hC rfl sd ?_
      rw [Int.toNat_natCast]
      (refine lwp_region hC ⟨[], [], [(3, Cost_i (l.getD k z2D))]⟩ (told1 _ (by rw [hP]; exact (calls_cons (Cost_s _ (hp k (by omega))) calls_nil))) rfl ?_ ?_; rotate_left 1)
      · repeat first | refine lwp_seq fun K hK => ?_ | (with_reducible refine gA ?_; apply_assumption -exfalso -symm) | refine Stp.h ?_ | refine gF rfl ?_ | refine gG rfl ?_ | refine gM hC rfl sd ?_
        refine gA ⟨k + 1, ?_, ?_, sub_intro hm [(0, some 0), (1, some 5)] rfl ?_⟩
        · omega
        · omega
        · have e := costsL_take l k (by omega)
          exact sd
      · exact sd
    · repeat first | refine lwp_seq fun K hK => ?_ | (with_reducible refine gA ?_; apply_assumption -exfalso -symm) | refine Stp.h ?_ | refine gF rfl ?_ | refine gG rfl ?_ | refine gM hC rfl sd ?_
      (refine end_intro (by first | exact .inr rfl | exact .inl rfl) [(1, some 1)] rfl ?_)
      obtain rfl : k = l.length := by omega
      rw [List.take_of_length_le (by omega)]
      exact sd

def bndE (S : List Sec) (T : List Shf) (l : List Z2) : Int := firstS [firstS [offE S T, whenS (decide ((l.length : Int) ≠ T.length)) 2], firstS (pricesL l), whenS (l.any bigB) 4]
def sumH (T : List Shf) (l : List Z2) : Nat → Int
  | 0 => 0
  | k + 1 => sumH T l k + cZ (l.getD k z2D) * (T.getD k shfD).hr
def mostZ (S : List Sec) (T : List Shf) (l : List Z2) (i : Nat) : Nat → Int
  | 0 => 0
  | k + 1 => if inTimeB S T i k = true then (if (S.getD i secD).vl * 27720 - (S.getD i secD).wk * cZ (l.getD k z2D) > mostZ S T l i k then (S.getD i secD).vl * 27720 - (S.getD i secD).wk * cZ (l.getD k z2D) else mostZ S T l i k) else mostZ S T l i k
def sumM (S : List Sec) (T : List Shf) (l : List Z2) : Nat → Int
  | 0 => 0
  | i + 1 => sumM S T l i + mostZ S T l i T.length
def bndT (S : List Sec) (T : List Shf) (l : List Z2) : Int := sumH T l T.length + sumM S T l S.length
def bndS (S : List Sec) (T : List Shf) (l : List Z2) : Int × Int := if bndE S T l = 0 then (bndT S T l / 27720, 0) else (0, bndE S T l)
structure BndB (S : List Sec) (T : List Shf) (l : List Z2) : Prop where
  B : OffB S T
  len : l.length = T.length
  pr : ∀ k, k < l.length → PrB (l.getD k z2D)
theorem bndB {S : List Sec} {T : List Shf} {l : List Z2} (h : bndE S T l = 0) : BndB S T l := by
  have h1 := (firstS_cons _ _).1 h
  have h2 := (firstS_cons _ _).1 h1.2
  have h3 := (whenS_zero (by decide)).1 ((firstS_cons _ _).1 h2.2).1
  have h4 := (firstS_cons _ _).1 h1.1
  have h5 := of_decide_eq_false ((whenS_zero (by decide)).1 ((firstS_cons _ _).1 h4.2).1)
  exact ⟨offB h4.1, by omega, fun k hk => prB (pricesL_zero h2.1 k hk) (any_false (d := z2D) h3 k hk)⟩
theorem BndB.prk {S : List Sec} {T : List Shf} {l : List Z2} (h : BndB S T l) (k : Nat) : 0 ≤ cZ (l.getD k z2D) ∧ cZ (l.getD k z2D) ≤ 27719999972280 := by
  by_cases hk : k < l.length
  · exact (h.pr k hk).hc
  · rw [getD_out hk]; unfold cZ z2D; decide
theorem sumH_in {S : List Sec} {T : List Shf} {l : List Z2} (h : BndB S T l) : ∀ k : Nat, 0 ≤ sumH T l k ∧ sumH T l k ≤ k * 27719999972280000
  | 0 => by simp [sumH]
  | k + 1 => by
    have h1 := sumH_in h k
    have h2 := h.prk k
    have h3 := h.B.hr k
    have h4 := Int.mul_nonneg h2.1 h3.1
    have h5 := Int.mul_le_mul h2.2 h3.2 h3.1 (by decide)
    simp only [sumH]
    omega
theorem wkc_in {S : List Sec} {T : List Shf} {l : List Z2} (h : BndB S T l) (i k : Nat) : 0 ≤ (S.getD i secD).wk * cZ (l.getD k z2D) ∧ (S.getD i secD).wk * cZ (l.getD k z2D) ≤ 27719999972280000 := by
  have h2 := h.prk k
  have h3 := h.B.wk i
  have h4 := Int.mul_nonneg h3.1 h2.1
  have h5 := Int.mul_le_mul h3.2 h2.2 h2.1 (by decide)
  omega
theorem mostZ_in {S : List Sec} {T : List Shf} {l : List Z2} (h : BndB S T l) (i : Nat) : ∀ k : Nat, 0 ≤ mostZ S T l i k ∧ mostZ S T l i k ≤ 27720000000
  | 0 => by simp [mostZ]
  | k + 1 => by
    have h1 := mostZ_in h i k
    have h2 := wkc_in h i k
    have h3 := h.B.vl i
    simp only [mostZ]
    split
    · split <;> omega
    · exact h1
theorem sumM_in {S : List Sec} {T : List Shf} {l : List Z2} (h : BndB S T l) : ∀ i : Nat, 0 ≤ sumM S T l i ∧ sumM S T l i ≤ i * 27720000000
  | 0 => by simp [sumM]
  | i + 1 => by
    have h1 := sumM_in h i
    have h2 := mostZ_in h i T.length
    simp only [sumM]
    omega
def bndIn (S : List Sec) (T : List Shf) (l : List Z2) : List (Nat × Chunk) := [(0, .ro S.length 5 (secC S)), (1, .ro T.length 4 (shfC T)), (2, .ro l.length 2 (z2C l))]
def Bnd_i (S : List Sec) (T : List Shf) (l : List Z2) (σ : Ren) : Inst := { f := 37, hin := bndIn S T l, args := [ofA S T, .sl 2 l.length], hout := [], ret := .tup [i64 (bndS S T l).1, i64 (bndS S T l).2], σ := σ }
set_option maxRecDepth 20000 in
set_option maxHeartbeats 4000000 in
theorem Bnd_s (S : List Sec) (T : List Shf) (l : List Z2) (σ : Ren) (hS : S.length ≤ 1000000) (hT : T.length ≤ 1000000) (hl : l.length ≤ 1000000) : (Bnd_i S T l σ).ok Tryz.prog := by
  have hF := PFirst_s (pricesL l) [(0, some 5)] (by rw [pricesL_len]; omega)
  unfold PFirst_i at hF
  rw [pricesL_len] at hF
  unfold Bnd_i Inst.ok; dsimp only; refine spec_of_body (tys := tys) 3 Tryz.func37 (by kernel_rfl) rfl tys_ok rfl (Nat.le_of_ble_eq_true rfl) (fun _ _ h => (by cases h)) fun F hP hm hC hrd => ?_; conv => whnf
  repeat first | refine lwp_seq fun K hK => ?_ | (with_reducible refine gA ?_; apply_assumption -exfalso -symm) | refine Stp.h ?_ | refine gF rfl ?_ | refine gG rfl ?_ | refine gM hC rfl sd ?_
  (refine lwp_drawn hC (by rw [hP]; exact mixed) ⟨[], [], [(1, Off_i S T [(0, some 0), (1, some 1)]), (8, PWhen_i (decide ((l.length : Int) ≠ T.length)) 2), (10, PFirst_i [offE S T, whenS (decide ((l.length : Int) ≠ T.length)) 2] [(0, some 4)])]⟩ (told1 _ (by rw [hP]; exact (calls_cons (Off_s _ _ _ hS hT) (calls_cons (PWhen_s _ _) (calls_cons (PFirst_s _ _ (by simp)) calls_nil))))) [0, 1, 0, 4, 0, 16, 48, 124, 255, 511, 1023, 2047] 8 rfl ?_ ?_; rotate_left 1)
  · repeat first | refine lwp_seq fun K hK => ?_ | (with_reducible refine gA ?_; apply_assumption -exfalso -symm) | refine Stp.h ?_ | refine gF rfl ?_ | refine gG rfl ?_ | refine gM hC rfl sd ?_
    refine lwp_condS hC rfl sd ?_ ?_ <;> intro hb
    · have e1 : bndE S T l = firstS [offE S T, whenS (decide ((l.length : Int) ≠ T.length)) 2] := by
        unfold bndE; generalize firstS [offE S T, whenS (decide ((l.length : Int) ≠ T.length)) 2] = q at *; simp only [firstS, if_neg hb]
      have e : bndS S T l = (0, firstS [offE S T, whenS (decide ((l.length : Int) ≠ T.length)) 2]) := by unfold bndS; rw [e1, if_neg hb]
      repeat first | refine lwp_seq fun K hK => ?_ | (with_reducible refine gA ?_; apply_assumption -exfalso -symm) | refine Stp.h ?_ | refine gF rfl ?_ | refine gG rfl ?_ | refine gM hC rfl sd ?_
      (refine end_intro (by first | exact .inr rfl | exact .inl rfl) [] rfl ?_)
      rw [e]
      exact ⟨rfl, rfl, trivial⟩
    · have e1 : bndE S T l = firstS [firstS (pricesL l), whenS (l.any bigB) 4] := by
        unfold bndE; generalize firstS [offE S T, whenS (decide ((l.length : Int) ≠ T.length)) 2] = q at *; simp only [firstS, if_pos hb]
      have E1 := Lib.hid e1
      clear hb e1
      repeat first | refine lwp_seq fun K hK => ?_ | (with_reducible refine gA ?_; apply_assumption -exfalso -symm) | refine Stp.h ?_ | refine gF rfl ?_ | refine gG rfl ?_ | refine gM hC rfl ⟨⟩ ?_
      (refine lwp_region hC ⟨[], [], [(1, PrMap_i l [(0, some 2)]), (2, { f := 94, hin := [(0, .ro l.length 1 (.ints .i64 (pricesL l)))], args := [.sl 0 l.length], hout := [], ret := i64 (firstS (pricesL l)), σ := [(0, some 5)] })]⟩ (told1 _ (by rw [hP]; exact (calls_cons (PrMap_s _ _ hl) (calls_cons (hF) calls_nil)))) rfl ?_ ?_; rotate_left 1)
      · repeat first | refine lwp_seq fun K hK => ?_ | (with_reducible refine gA ?_; apply_assumption -exfalso -symm) | refine Stp.h ?_ | refine gF rfl ?_ | refine gG rfl ?_ | refine gM hC rfl sd ?_
        refine lwp_condS hC rfl sd ?_ ?_ <;> intro hb
        · have e1 : bndE S T l = firstS (pricesL l) := by rw [E1.out, first_two, if_neg hb]
          have e : bndS S T l = (0, firstS (pricesL l)) := by unfold bndS; rw [e1, if_neg hb]
          repeat first | refine lwp_seq fun K hK => ?_ | (with_reducible refine gA ?_; apply_assumption -exfalso -symm) | refine Stp.h ?_ | refine gF rfl ?_ | refine gG rfl ?_ | refine gM hC rfl sd ?_
          (refine end_intro (by first | exact .inr rfl | exact .inl rfl) [] rfl ?_)
          rw [e]
          exact ⟨rfl, rfl, trivial⟩
        · have e1 : bndE S T l = whenS (l.any bigB) 4 := by rw [E1.out, first_two, if_pos hb]
          have E2 := Lib.hid e1
          clear hb e1 E1 hF
          repeat first | refine lwp_seq fun K hK => ?_ | (with_reducible refine gA ?_; apply_assumption -exfalso -symm) | refine Stp.h ?_ | refine gF rfl ?_ | refine gG rfl ?_ | refine gM hC rfl ⟨⟩ ?_
          (refine lwp_region hC ⟨[], [], [(1, CfB_i l [(0, some 2)])]⟩ (told1 _ (by rw [hP]; exact (calls_cons (CfB_s _ _ hl) calls_nil))) rfl ?_ ?_; rotate_left 1)
          · repeat first | refine lwp_seq fun K hK => ?_ | (with_reducible refine gA ?_; apply_assumption -exfalso -symm) | refine Stp.h ?_ | refine gF rfl ?_ | refine gG rfl ?_ | refine gM hC rfl sd ?_
            refine lwp_condS hC rfl sd ?_ ?_ <;> intro hb
            · have e1 : bndE S T l = 4 := by rw [E2.out, hb]; rfl
              have e : bndS S T l = (0, 4) := by unfold bndS; rw [e1, if_neg (by decide)]
              repeat first | refine lwp_seq fun K hK => ?_ | (with_reducible refine gA ?_; apply_assumption -exfalso -symm) | refine Stp.h ?_ | refine gF rfl ?_ | refine gG rfl ?_ | refine gM hC rfl sd ?_
              (refine end_intro (by first | exact .inr rfl | exact .inl rfl) [] rfl ?_)
              rw [e]
              exact ⟨rfl, rfl, trivial⟩
            · have e1 : bndE S T l = 0 := by rw [E2.out, hb]; rfl
              have e : bndS S T l = (bndT S T l / 27720, 0) := if_pos e1
              have hKb := bndB e1
              have hS7 := hKb.B.lS
              have hT5 := hKb.B.lT
              have hlen := hKb.len
              have HK := Lib.hid hKb
              have HE := Lib.hid e
              clear hb e1 e E2 hKb
              repeat first | refine lwp_seq fun K hK => ?_ | (with_reducible refine gA ?_; apply_assumption -exfalso -symm) | refine Stp.h ?_ | refine gF rfl ?_ | refine gG rfl ?_ | refine gM hC rfl ⟨⟩ ?_
              (refine lwp_region hC ⟨[], [], [(1, CMap_i l [(0, some 2)])]⟩ (told1 _ (by rw [hP]; exact (calls_cons (CMap_s _ _ hl HK.out.pr) calls_nil))) rfl ?_ ?_; rotate_left 1)
              · repeat first | refine lwp_seq fun K hK => ?_ | (with_reducible refine gA ?_; apply_assumption -exfalso -symm) | refine Stp.h ?_ | refine gF rfl ?_ | refine gG rfl ?_ | refine gM hC rfl sd ?_
                refine lwp_loop (fun k : Nat => ⟨[(43, i64 k), (42, i64 T.length), (41, .sl 1 T.length), (9, i64 (sumH T l k)), (8, .sl 4 l.length), (2, .ptr 3 0 0 0)], [(4, .row 3 l.length 1 (.ints .i64 (costsL l))), (3, .blk 37 [.sl 0 S.length, .sl 1 T.length]), (0, .ro S.length 5 (secC S)), (1, .ro T.length 4 (shfC T))], 5⟩) (fun k => k ≤ T.length) (fun k => T.length - k) 0 ⟨?_, sub_intro hm [(0, some 0), (1, some 1), (3, some 3), (4, some 6)] rfl ?_⟩ ?_
                · exact Nat.zero_le _
                · exact sd
                · rintro k hk
                  have hkk : ((k : Int)).toNat = k := Int.toNat_natCast k
                  repeat first | refine lwp_seq fun K hK => ?_ | (with_reducible refine gA ?_; apply_assumption -exfalso -symm) | refine Stp.h ?_ | refine gF rfl ?_ | refine gG rfl ?_ | refine gM hC rfl sd ?_
                  refine lwp_condS hC rfl sd ?_ ?_ <;> intro hb
                  · have hk2 : k < l.length := by omega
                    have eg := costsL_getD l hk2
                    have h1 := sumH_in HK.out k
                    have h2 := HK.out.prk k
                    have h3 := HK.out.B.hr k
                    have h4 := Int.mul_nonneg h2.1 h3.1
                    have h5 := Int.mul_le_mul h2.2 h3.2 h3.1 (by decide)
                    have hkc : k < (costsL l).length := by rw [costsL_len]; exact hk2
                    have hcl := costsL_len l
                    repeat first | refine lwp_seq fun K hK => ?_ | (with_reducible refine gA ?_; apply_assumption -exfalso -symm) | refine Stp.h ?_ | refine gF rfl ?_ | refine gG rfl ?_ | refine gM hC rfl sd ?_
                    rw [hkk]
                    (refine lwp_drawn hC (by rw [hP]; exact mixed) ⟨[], [], []⟩ (told0 _ _) [0, 0, 0, 6, 14, 0, 32, 126, 255, 511] 8 rfl ?_ ?_; rotate_left 1)
                    · rw [hkk, eg]
                      repeat first | refine lwp_seq fun K hK => ?_ | (with_reducible refine gA ?_; apply_assumption -exfalso -symm) | refine Stp.h ?_ | refine gF rfl ?_ | refine gG rfl ?_ | refine gM hC rfl sd ?_
                      refine gA ⟨k + 1, ?_, ?_, sub_intro hm [(0, some 0), (1, some 1), (3, some 3), (4, some 4)] rfl ?_⟩
                      · omega
                      · omega
                      · have e2 : sumH T l (k + 1) = sumH T l k + cZ (l.getD k z2D) * (T.getD k shfD).hr := rfl
                        rw [e2]
                        exact sd
                    · rw [hkk, eg]
                      exact sd
                  · obtain rfl : k = T.length := by omega
                    clear hb hk hkk
                    repeat first | refine lwp_seq fun K hK => ?_ | (with_reducible refine gA ?_; apply_assumption -exfalso -symm) | refine Stp.h ?_ | refine gF rfl ?_ | refine gG rfl ?_ | refine gM hC rfl sd ?_
                    refine lwp_loop (fun i : Nat => ⟨[(61, i64 i), (60, i64 S.length), (59, .sl 0 S.length), (9, i64 (sumH T l T.length + sumM S T l i)), (8, .sl 4 l.length), (2, .ptr 3 0 0 0)], [(4, .row 3 l.length 1 (.ints .i64 (costsL l))), (3, .blk 37 [.sl 0 S.length, .sl 1 T.length]), (0, .ro S.length 5 (secC S)), (1, .ro T.length 4 (shfC T))], 5⟩) (fun i => i ≤ S.length) (fun i => S.length - i) 0 ⟨?_, sub_intro hm [(0, some 0), (1, some 1), (3, some 3), (4, some 4)] rfl ?_⟩ ?_
                    · exact Nat.zero_le _
                    · have e2 : sumH T l T.length = sumH T l T.length + sumM S T l 0 := by simp [sumM]
                      exact sd
                    · rintro i hi
                      have hii : ((i : Int)).toNat = i := Int.toNat_natCast i
                      repeat first | refine lwp_seq fun K hK => ?_ | (with_reducible refine gA ?_; apply_assumption -exfalso -symm) | refine Stp.h ?_ | refine gF rfl ?_ | refine gG rfl ?_ | refine gM hC rfl sd ?_
                      refine lwp_condS hC rfl sd ?_ ?_ <;> intro hb
                      · have hi2 : i < S.length := by omega
                        repeat first | refine lwp_seq fun K hK => ?_ | (with_reducible refine gA ?_; apply_assumption -exfalso -symm) | refine Stp.h ?_ | refine gF rfl ?_ | refine gG rfl ?_ | refine gM hC rfl sd ?_
                        rw [hii]
                        refine lwp_loop (fun k : Nat => ⟨[(69, i64 k), (68, i64 T.length), (67, .sl 1 T.length), (14, i64 (mostZ S T l i k)), (12, i64 i), (13, .ptr 5 0 0 0), (61, i64 i), (60, i64 S.length), (59, .sl 0 S.length), (9, i64 (sumH T l T.length + sumM S T l i)), (8, .sl 4 l.length), (2, .ptr 3 0 0 0)], [(5, .blk 160 [.lit (.string (S.getD i secD).name), i64 (S.getD i secD).dl, i64 (S.getD i secD).wk, i64 (S.getD i secD).bl, i64 (S.getD i secD).vl]), (4, .row 3 l.length 1 (.ints .i64 (costsL l))), (3, .blk 37 [.sl 0 S.length, .sl 1 T.length]), (0, .ro S.length 5 (secC S)), (1, .ro T.length 4 (shfC T))], 6⟩) (fun k => k ≤ T.length) (fun k => T.length - k) 0 ⟨?_, sub_intro hm [(0, some 0), (1, some 1), (3, some 3), (4, some 4), (5, some 5)] rfl ?_⟩ ?_
                        · exact Nat.zero_le _
                        · exact sd
                        · rintro k hk
                          have hkk : ((k : Int)).toNat = k := Int.toNat_natCast k
                          repeat first | refine lwp_seq fun K hK => ?_ | (with_reducible refine gA ?_; apply_assumption -exfalso -symm) | refine Stp.h ?_ | refine gF rfl ?_ | refine gG rfl ?_ | refine gM hC rfl sd ?_
                          refine lwp_condS hC rfl sd ?_ ?_ <;> intro hb
                          · have hk2 : k < l.length := by omega
                            have eg := costsL_getD l hk2
                            have h1 := mostZ_in HK.out i k
                            have h2 := wkc_in HK.out i k
                            have h3 := HK.out.B.vl i
                            have h4 := HK.out.prk k
                            have hkc : k < (costsL l).length := by rw [costsL_len]; exact hk2
                            have hcl := costsL_len l
                            repeat first | refine lwp_seq fun K hK => ?_ | (with_reducible refine gA ?_; apply_assumption -exfalso -symm) | refine Stp.h ?_ | refine gF rfl ?_ | refine gG rfl ?_ | refine gM hC rfl sd ?_
                            (refine lwp_region hC ⟨[], [], [(3, InT_i S T i k [(0, some 0), (1, some 1)])]⟩ (told1 _ (by rw [hP]; exact (calls_cons (InT_s _ _ _ _ _ hi2 (by omega) (by omega) (by omega)) calls_nil))) rfl ?_ ?_; rotate_left 1)
                            · repeat first | refine lwp_seq fun K hK => ?_ | (with_reducible refine gA ?_; apply_assumption -exfalso -symm) | refine Stp.h ?_ | refine gF rfl ?_ | refine gG rfl ?_ | refine gM hC rfl sd ?_
                              refine lwp_condS hC rfl sd ?_ ?_ <;> intro hb
                              · have e2 : mostZ S T l i (k + 1) = if (S.getD i secD).vl * 27720 - (S.getD i secD).wk * cZ (l.getD k z2D) > mostZ S T l i k then (S.getD i secD).vl * 27720 - (S.getD i secD).wk * cZ (l.getD k z2D) else mostZ S T l i k := if_pos hb
                                repeat first | refine lwp_seq fun K hK => ?_ | (with_reducible refine gA ?_; apply_assumption -exfalso -symm) | refine Stp.h ?_ | refine gF rfl ?_ | refine gG rfl ?_ | refine gM hC rfl ⟨⟩ ?_
                                (refine lwp_drawn hC (by rw [hP]; exact mixed) ⟨[], [], []⟩ (told0 _ _) [0, 0, 2, 6, 0, 16, 0, 0, 192, 448, 1008, 2046, 4095, 8191] 12 rfl ?_ ?_; rotate_left 1)
                                · rw [hkk, eg]
                                  repeat first | refine lwp_seq fun K hK => ?_ | (with_reducible refine gA ?_; apply_assumption -exfalso -symm) | refine Stp.h ?_ | refine gF rfl ?_ | refine gG rfl ?_ | refine gM hC rfl sd ?_
                                  refine gA ⟨k + 1, ?_, ?_, sub_intro hm [(0, some 0), (1, some 1), (3, some 3), (4, some 4), (5, some 5)] rfl ?_⟩
                                  · omega
                                  · omega
                                  · rw [e2]
                                    exact sd
                                · rw [hkk, eg]
                                  exact sd
                              · have e2 : mostZ S T l i (k + 1) = mostZ S T l i k := if_neg (by rw [hb]; decide)
                                repeat first | refine lwp_seq fun K hK => ?_ | (with_reducible refine gA ?_; apply_assumption -exfalso -symm) | refine Stp.h ?_ | refine gF rfl ?_ | refine gG rfl ?_ | refine gM hC rfl sd ?_
                                refine gA ⟨k + 1, ?_, ?_, sub_intro hm [(0, some 0), (1, some 1), (3, some 3), (4, some 4), (5, some 5)] rfl ?_⟩
                                · omega
                                · omega
                                · rw [e2]
                                  exact sd
                            · exact sd
                          · obtain rfl : k = T.length := by omega
                            have h1 := mostZ_in HK.out i T.length
                            have h2 := sumM_in HK.out i
                            have h3 := sumH_in HK.out T.length
                            clear hb hk hkk
                            repeat first | refine lwp_seq fun K hK => ?_ | (with_reducible refine gA ?_; apply_assumption -exfalso -symm) | refine Stp.h ?_ | refine gF rfl ?_ | refine gG rfl ?_ | refine gM hC rfl sd ?_
                            refine gA ⟨i + 1, ?_, ?_, sub_intro hm [(0, some 0), (1, some 1), (3, some 3), (4, some 4)] rfl ?_⟩
                            · omega
                            · omega
                            · have e2 : sumH T l T.length + sumM S T l (i + 1) = sumH T l T.length + sumM S T l i + mostZ S T l i T.length := by simp only [sumM]; omega
                              rw [e2]
                              exact sd
                      · obtain rfl : i = S.length := by omega
                        have h2 := sumM_in HK.out S.length
                        have h3 := sumH_in HK.out T.length
                        have ht : (sumH T l T.length + sumM S T l S.length).tdiv 27720 = bndT S T l / 27720 := Int.tdiv_eq_ediv_of_nonneg (by omega)
                        have hq : 0 ≤ bndT S T l / 27720 ∧ bndT S T l / 27720 ≤ 1000000000000000000 := by unfold bndT; omega
                        clear hb hi hii
                        repeat first | refine lwp_seq fun K hK => ?_ | (with_reducible refine gA ?_; apply_assumption -exfalso -symm) | refine Stp.h ?_ | refine gF rfl ?_ | refine gG rfl ?_ | refine gM hC rfl ⟨⟩ ?_
                        (refine lwp_region hC ⟨[], [], []⟩ (told0 _ _) rfl ?_ ?_; rotate_left 1)
                        · rw [ht]
                          repeat first | refine lwp_seq fun K hK => ?_ | (with_reducible refine gA ?_; apply_assumption -exfalso -symm) | refine Stp.h ?_ | refine gF rfl ?_ | refine gG rfl ?_ | refine gM hC rfl sd ?_
                          (refine end_intro (by first | exact .inr rfl | exact .inl rfl) [] rfl ?_)
                          rw [HE.out]
                          exact ⟨rfl, rfl, trivial⟩
                        · rw [ht]
                          exact sd
              · exact sd
          · exact sd
      · exact sd
  · exact sd

end Go.Proofs.YtccddhoeampdjaaGreatDoor
