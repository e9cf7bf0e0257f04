/- Chapter 9: Pull, Joined: the program's and the reference's. -/
import Derived.Test.YtccddhoeampdjaaGreatDoorPf
import Derived.Test.YtccddhoeampdjaaGreatDoorPo
import Derived.Test.YtccddhoeampdjaaGreatDoorKa
set_option linter.unusedVariables false
set_option linter.unusedSimpArgs false
namespace Go.Proofs.YtccddhoeampdjaaGreatDoor
open Go.RowKit Go.Sym

theorem max0 (x : Int) : (if x > 0 then x else 0) = max 0 x := by split <;> omega
theorem ceil_eq (m y : Int) (hy : 0 < y) : 0 - (0 - m) / y = (m + y - 1) / y := by
  have a1 := Int.emod_add_mul_ediv (0 - m) y
  have a2 := Int.emod_nonneg (0 - m) (show y ≠ 0 by omega)
  have a3 := Int.emod_lt_of_pos (0 - m) hy
  have b1 := Int.emod_add_mul_ediv (m + y - 1) y
  have b2 := Int.emod_nonneg (m + y - 1) (show y ≠ 0 by omega)
  have b3 := Int.emod_lt_of_pos (m + y - 1) hy
  have hs : y * ((0 - m) / y + (m + y - 1) / y) = y * ((0 - m) / y) + y * ((m + y - 1) / y) := Int.mul_add _ _ _
  generalize (0 - m) / y = p at *
  generalize (m + y - 1) / y = q at *
  have h1 : p + q < 1 := by
    rcases Int.lt_or_le (p + q) 1 with h | h
    · exact h
    · have := Int.mul_le_mul_of_nonneg_left h (show 0 ≤ y by omega)
      omega
  have h2 : -1 < p + q := by
    rcases Int.lt_or_le (-1) (p + q) with h | h
    · exact h
    · have := Int.mul_le_mul_of_nonneg_left h (show 0 ≤ y by omega)
      omega
  omega
def pullN (L H g a : Int) : Int := (max 0 (a - H) * L + g - 1) / g
def argE (L H g a b : Int) : Int := firstS [railS L H 0, growS g, bandS a b]
def pullE (L H g a b : Int) : Int := firstS [railS L H 0, growS g, bandS a b, whenS (decide (H > b)) 30]
def pullBad (L H g a b : Int) : Bool := bif decide (pullN L H g a > L) then true else !inBS L H (pullN L H g a) g a b
def pullS (L H g a b : Int) : Int × Int := if pullE L H g a b = 0 then (if pullBad L H g a b = true then (0, 18) else (pullN L H g a, 0)) else (0, pullE L H g a b)
structure PullB (L H g a b : Int) : Prop where
  b1 : 1 ≤ L ∧ L ≤ 1000000
  b2 : -1000 ≤ H ∧ H ≤ 1000
  b3 : 1 ≤ g ∧ g ≤ 1000000
  b4 : -1000 ≤ a ∧ a ≤ 1000
  b5 : 0 ≤ max 0 (a - H) * L ∧ max 0 (a - H) * L ≤ 2000000000
  b6 : 0 ≤ pullN L H g a ∧ pullN L H g a ≤ 3000000000
  c : BandB L a b
theorem argB {L H g a b : Int} (h : argE L H g a b = 0) : PullB L H g a b := by
  have h1 := (firstS_cons _ _).1 h
  have h2 := (firstS_cons _ _).1 h1.2
  have h3 := ((firstS_cons _ _).1 h2.2).1
  obtain ⟨k1, k2, _⟩ := railS_zero h1.1
  have k3 := withinS_zero.1 h2.1
  obtain ⟨k4, _, _⟩ := bandS_zero h3
  have hM : 0 ≤ max 0 (a - H) ∧ max 0 (a - H) ≤ 2000 := by omega
  have m1 : 0 ≤ max 0 (a - H) * L := Int.mul_nonneg hM.1 (by omega)
  have m2 := mul_in (x := max 0 (a - H)) (y := L) (A := 2000) (B := 1000000) (by omega) (by omega)
  refine ⟨k1, k2, k3, k4, ⟨m1, by omega⟩, ⟨Int.ediv_nonneg (by omega) (by omega), ?_⟩, bandB k1 h3⟩
  have := Int.ediv_le_self g (show 0 ≤ max 0 (a - H) * L + g - 1 by omega)
  unfold pullN
  omega
theorem pullE_arg {L H g a b : Int} (h : pullE L H g a b = 0) : argE L H g a b = 0 ∧ ¬ H > b := by
  have h1 := (firstS_cons _ _).1 h
  have h2 := (firstS_cons _ _).1 h1.2
  have h3 := (firstS_cons _ _).1 h2.2
  have h4 := (whenS_zero (by decide)).1 ((firstS_cons _ _).1 h3.2).1
  refine ⟨?_, of_decide_eq_false h4⟩
  unfold argE
  rw [firstS_cons, firstS_cons, firstS_cons]
  exact ⟨h1.1, h2.1, h3.1, rfl⟩
theorem pullE_when {L H g a b : Int} (h : argE L H g a b = 0) : pullE L H g a b = whenS (decide (H > b)) 30 := by
  have h1 := (firstS_cons _ _).1 h
  have h2 := (firstS_cons _ _).1 h1.2
  have h3 := ((firstS_cons _ _).1 h2.2).1
  unfold pullE
  simp only [firstS, if_pos h1.1, if_pos h2.1, if_pos h3]
  by_cases hb : H > b <;> simp [whenS, hb]
theorem PullB.rail {L H g a b : Int} (h : PullB L H g a b) (hn : ¬ pullN L H g a > L) : RailB L H (pullN L H g a) g := by
  have hb := h.b1
  have h2 := h.b2
  have h3 := h.b3
  have h6 := h.b6
  have h5 := mul_in (x := L) (y := H) (A := 1000000) (B := 1000) (by omega) (by omega)
  have h7 := mul_in (x := pullN L H g a) (y := g) (A := 1000000) (B := 1000000) (by omega) (by omega)
  exact ⟨hb, h2, ⟨h6.1, by omega⟩, h3, by omega, Int.mul_nonneg h6.1 (by omega), by omega⟩
theorem pullN_ref {L H g a b : Int} (h : PullB L H g a b) : max 0 (0 - (H - a) * L / g) = pullN L H g a := by
  have h1 := h.b1
  have h3 := h.b3
  by_cases hh : a - H > 0
  · have e : (H - a) * L = 0 - max 0 (a - H) * L := by
      rw [show max 0 (a - H) = a - H by omega, show H - a = -(a - H) by omega, Int.neg_mul]; omega
    have h6 := h.b6.1
    rw [e, ceil_eq _ _ (by omega)]
    show max 0 (pullN L H g a) = _
    omega
  · have h0 : max 0 (a - H) = 0 := by omega
    have hm : 0 ≤ (H - a) * L / g := Int.ediv_nonneg (Int.mul_nonneg (by omega) (by omega)) (by omega)
    unfold pullN
    rw [h0, Int.zero_mul, show 0 + g - 1 = g - 1 by omega, Int.ediv_eq_zero_of_lt (a := g - 1) (b := g) (by omega) (by omega)]
    omega
def Pull_i (L H g a b : Int) : Inst := { f := 59, hin := [], args := [i64 L, i64 H, i64 g, .agg [i64 a, i64 b]], hout := [], ret := .tup [i64 (pullS L H g a b).1, i64 (pullS L H g a b).2], σ := [] }
set_option maxRecDepth 20000 in
theorem Pull_s (L H g a b : Int) : (Pull_i L H g a b).ok Tryz.prog := by
  unfold Pull_i Inst.ok; dsimp only; refine spec_of_body (tys := tys) 0 Tryz.func59 (by kernel_rfl) rfl tys_ok rfl (Nat.le_of_ble_eq_true rfl) (fun _ _ h => (by cases h)) fun F hP hm hC hrd => ?_; conv => whnf
  repeat first | refine lwp_seq fun K hK => ?_ | (with_reducible refine gA ?_; apply_assumption -exfalso -symm) | refine Stp.h ?_ | refine gF rfl ?_ | refine gG rfl ?_ | refine gM hC rfl sd ?_
  (refine lwp_drawn hC (by rw [hP]; exact mixed) ⟨[], [], [(3, PRail_i L H 0), (5, PGrow_i g), (7, PBand_i a b), (12, PWhen_i (decide (H > b)) 30), (14, PFirst_i [railS L H 0, growS g, bandS a b, whenS (decide (H > b)) 30] [(0, some 1)])]⟩ (told1 _ (by rw [hP]; exact (calls_cons (PRail_s _ _ _) (calls_cons (PGrow_s _) (calls_cons (PBand_s _ _) (calls_cons (PWhen_s _ _) (calls_cons (PFirst_s _ _ (by simp)) calls_nil))))))) [0, 0, 3, 7, 0, 31, 0, 127, 0, 0, 512, 1792, 4095, 8191, 16383, 32767] 12 rfl ?_ ?_; rotate_left 1)
  · repeat first | refine lwp_seq fun K hK => ?_ | (with_reducible refine gA ?_; apply_assumption -exfalso -symm) | refine Stp.h ?_ | refine gF rfl ?_ | refine gG rfl ?_ | refine gM hC rfl sd ?_
    refine lwp_condS hC rfl sd ?_ ?_ <;> intro hb
    · have e : pullS L H g a b = (0, pullE L H g a b) := if_neg hb
      repeat first | refine lwp_seq fun K hK => ?_ | (with_reducible refine gA ?_; apply_assumption -exfalso -symm) | refine Stp.h ?_ | refine gF rfl ?_ | refine gG rfl ?_ | refine gM hC rfl sd ?_
      (refine end_intro (by first | exact .inr rfl | exact .inl rfl) [] rfl ?_)
      rw [e]
      exact ⟨rfl, rfl, trivial⟩
    · have e : pullS L H g a b = if pullBad L H g a b = true then (0, 18) else (pullN L H g a, 0) := if_pos hb
      have hB := argB (pullE_arg hb).1
      obtain ⟨b1, b2, b3, b4, b5, b6, _⟩ := hB
      have hB := argB (pullE_arg hb).1
      have ht : (max 0 (a - H) * L + g - 1).tdiv g = pullN L H g a := Int.tdiv_eq_ediv_of_nonneg (by omega)
      clear hb
      repeat first | refine lwp_seq fun K hK => ?_ | (with_reducible refine gA ?_; apply_assumption -exfalso -symm) | refine Stp.h ?_ | refine gF rfl ?_ | refine gG rfl ?_ | refine gM hC rfl ⟨⟩ ?_
      (refine lwp_region hC ⟨[], [], []⟩ (told0 _ _) rfl ?_ ?_; rotate_left 1)
      · rw [max0, ht]
        by_cases hn : pullN L H g a > L
        · have e1 : pullBad L H g a b = true := by unfold pullBad; rw [decide_eq_true hn]; rfl
          rw [e1, if_pos rfl] at e
          repeat first | refine lwp_seq fun K hK => ?_ | (with_reducible refine gA ?_; apply_assumption -exfalso -symm) | refine Stp.h ?_ | refine gF rfl ?_ | refine gG rfl ?_ | refine gM hC rfl ⟨⟩ ?_
          (refine lwp_region hC ⟨[(3, { b := some true }), (4, { g := some false }), (5, { g := some false }), (6, { g := some false }), (7, { g := some false }), (8, { g := some false }), (9, { g := some false }), (10, { g := some false }), (11, { g := some false })], [], []⟩ (told0 _ _) rfl ?_ ?_; rotate_left 1)
          · repeat first | refine lwp_seq fun K hK => ?_ | (with_reducible refine gA ?_; apply_assumption -exfalso -symm) | refine Stp.h ?_ | refine gF rfl ?_ | refine gG rfl ?_ | refine gM hC rfl ⟨⟩ ?_
            refine lwp_condS hC rfl sd ?_ ?_ <;> intro hb
            · repeat first | refine lwp_seq fun K hK => ?_ | (with_reducible refine gA ?_; apply_assumption -exfalso -symm) | refine Stp.h ?_ | refine gF rfl ?_ | refine gG rfl ?_ | refine gM hC rfl sd ?_
              (refine end_intro (by first | exact .inr rfl | exact .inl rfl) [] rfl ?_)
              rw [e]
              exact ⟨rfl, rfl, trivial⟩
            · exact absurd hb (by decide)
          · exact sd
        · have e1 : pullBad L H g a b = !inBS L H (pullN L H g a) g a b := by unfold pullBad; rw [decide_eq_false hn]; rfl
          rw [e1] at e
          repeat first | refine lwp_seq fun K hK => ?_ | (with_reducible refine gA ?_; apply_assumption -exfalso -symm) | refine Stp.h ?_ | refine gF rfl ?_ | refine gG rfl ?_ | refine gM hC rfl ⟨⟩ ?_
          (refine lwp_region hC ⟨[(3, { b := some false })], [], [(10, PInB_i L H (pullN L H g a) g a b)]⟩ (told1 _ (by rw [hP]; exact (calls_cons (PInB_s _ _ _ _ _ _ (hB.rail hn) hB.c) calls_nil))) rfl ?_ ?_; rotate_left 1)
          · repeat first | refine lwp_seq fun K hK => ?_ | (with_reducible refine gA ?_; apply_assumption -exfalso -symm) | refine Stp.h ?_ | refine gF rfl ?_ | refine gG rfl ?_ | refine gM hC rfl ⟨⟩ ?_
            refine lwp_condS hC rfl sd ?_ ?_ <;> intro hb
            · rw [if_pos (show (!inBS L H (pullN L H g a) g a b) = true from hb)] at e
              repeat first | refine lwp_seq fun K hK => ?_ | (with_reducible refine gA ?_; apply_assumption -exfalso -symm) | refine Stp.h ?_ | refine gF rfl ?_ | refine gG rfl ?_ | refine gM hC rfl sd ?_
              (refine end_intro (by first | exact .inr rfl | exact .inl rfl) [] rfl ?_)
              rw [e]
              exact ⟨rfl, rfl, trivial⟩
            · rw [if_neg (by rw [show (!inBS L H (pullN L H g a) g a b) = false from hb]; decide)] at e
              repeat first | refine lwp_seq fun K hK => ?_ | (with_reducible refine gA ?_; apply_assumption -exfalso -symm) | refine Stp.h ?_ | refine gF rfl ?_ | refine gG rfl ?_ | refine gM hC rfl sd ?_
              (refine end_intro (by first | exact .inr rfl | exact .inl rfl) [] rfl ?_)
              rw [e]
              exact ⟨rfl, rfl, trivial⟩
          · exact sd
      · rw [max0, ht]
        exact sd
  · exact sd
def RPull_i (L H g a b : Int) : Inst := { f := 60, hin := [], args := [i64 L, i64 H, i64 g, .agg [i64 a, i64 b]], hout := [], ret := .tup [i64 (pullS L H g a b).1, i64 (pullS L H g a b).2], σ := [] }
set_option maxRecDepth 20000 in
theorem RPull_s (L H g a b : Int) (hz : argE L H g a b = 0) : (RPull_i L H g a b).ok Tryz.prog := by
  have hE := pullE_when hz
  have hB := argB hz
  obtain ⟨b1, b2, b3, b4, b5, b6, _⟩ := hB
  have hB := argB hz
  have hr := pullN_ref hB
  clear hz
  unfold RPull_i Inst.ok; dsimp only; refine spec_of_body (tys := tys) 0 Tryz.func60 (by kernel_rfl) rfl tys_ok rfl (Nat.le_of_ble_eq_true rfl) (fun _ _ h => (by cases h)) fun F hP hm hC hrd => ?_; conv => whnf
  repeat first | refine lwp_seq fun K hK => ?_ | (with_reducible refine gA ?_; apply_assumption -exfalso -symm) | refine Stp.h ?_ | refine gF rfl ?_ | refine gG rfl ?_ | refine gM hC rfl sd ?_
  refine lwp_condS hC rfl sd ?_ ?_ <;> intro hb
  · rw [decide_eq_true hb] at hE
    have e : pullS L H g a b = (0, 30) := by unfold pullS; rw [hE]; rfl
    repeat first | refine lwp_seq fun K hK => ?_ | (with_reducible refine gA ?_; apply_assumption -exfalso -symm) | refine Stp.h ?_ | refine gF rfl ?_ | refine gG rfl ?_ | refine gM hC rfl sd ?_
    (refine end_intro (by first | exact .inr rfl | exact .inl rfl) [] rfl ?_)
    rw [e]
    exact ⟨rfl, rfl, trivial⟩
  · rw [decide_eq_false hb] at hE
    have e : pullS L H g a b = if pullBad L H g a b = true then (0, 18) else (pullN L H g a, 0) := if_pos hE
    have hm := mul_in (x := H - a) (y := L) (A := 2000) (B := 1000000) (by omega) (by omega)
    have hd : -3000000000 ≤ (H - a) * L / g ∧ (H - a) * L / g ≤ 3000000000 := by
      have h1 := Int.emod_add_mul_ediv ((H - a) * L) g
      have h2 := Int.natAbs_ediv_le_natAbs ((H - a) * L) g
      omega
    clear hE hb
    repeat first | refine lwp_seq fun K hK => ?_ | (with_reducible refine gA ?_; apply_assumption -exfalso -symm) | refine Stp.h ?_ | refine gF rfl ?_ | refine gG rfl ?_ | refine gM hC rfl ⟨⟩ ?_
    (refine lwp_region hC ⟨[], [], [(7, Floor_i ((H - a) * L) g)]⟩ (told1 _ (by rw [hP]; exact (calls_cons (Floor_s _ _ (by omega) (by omega)) calls_nil))) rfl ?_ ?_; rotate_left 1)
    · rw [max0, hr]
      by_cases hn : pullN L H g a > L
      · have e1 : pullBad L H g a b = true := by unfold pullBad; rw [decide_eq_true hn]; rfl
        rw [e1, if_pos rfl] at e
        repeat first | refine lwp_seq fun K hK => ?_ | (with_reducible refine gA ?_; apply_assumption -exfalso -symm) | refine Stp.h ?_ | refine gF rfl ?_ | refine gG rfl ?_ | refine gM hC rfl ⟨⟩ ?_
        (refine lwp_region hC ⟨[(3, { b := some true }), (4, { g := some false }), (5, { g := some false }), (6, { g := some false }), (7, { g := some false }), (8, { g := some false }), (9, { g := some false }), (10, { g := some false }), (11, { g := some false })], [], []⟩ (told0 _ _) rfl ?_ ?_; rotate_left 1)
        · repeat first | refine lwp_seq fun K hK => ?_ | (with_reducible refine gA ?_; apply_assumption -exfalso -symm) | refine Stp.h ?_ | refine gF rfl ?_ | refine gG rfl ?_ | refine gM hC rfl ⟨⟩ ?_
          refine lwp_condS hC rfl sd ?_ ?_ <;> intro hb
          · repeat first | refine lwp_seq fun K hK => ?_ | (with_reducible refine gA ?_; apply_assumption -exfalso -symm) | refine Stp.h ?_ | refine gF rfl ?_ | refine gG rfl ?_ | refine gM hC rfl sd ?_
            (refine end_intro (by first | exact .inr rfl | exact .inl rfl) [] rfl ?_)
            rw [e]
            exact ⟨rfl, rfl, trivial⟩
          · exact absurd hb (by decide)
        · exact sd
      · have e1 : pullBad L H g a b = !inBS L H (pullN L H g a) g a b := by unfold pullBad; rw [decide_eq_false hn]; rfl
        rw [e1] at e
        repeat first | refine lwp_seq fun K hK => ?_ | (with_reducible refine gA ?_; apply_assumption -exfalso -symm) | refine Stp.h ?_ | refine gF rfl ?_ | refine gG rfl ?_ | refine gM hC rfl ⟨⟩ ?_
        (refine lwp_region hC ⟨[(3, { b := some false })], [], [(10, RInB_i L H (pullN L H g a) g a b)]⟩ (told1 _ (by rw [hP]; exact (calls_cons (RInB_s _ _ _ _ _ _ (hB.rail hn) hB.c) calls_nil))) rfl ?_ ?_; rotate_left 1)
        · repeat first | refine lwp_seq fun K hK => ?_ | (with_reducible refine gA ?_; apply_assumption -exfalso -symm) | refine Stp.h ?_ | refine gF rfl ?_ | refine gG rfl ?_ | refine gM hC rfl ⟨⟩ ?_
          refine lwp_condS hC rfl sd ?_ ?_ <;> intro hb
          · rw [if_pos (show (!inBS L H (pullN L H g a) g a b) = true from hb)] at e
            repeat first | refine lwp_seq fun K hK => ?_ | (with_reducible refine gA ?_; apply_assumption -exfalso -symm) | refine Stp.h ?_ | refine gF rfl ?_ | refine gG rfl ?_ | refine gM hC rfl sd ?_
            (refine end_intro (by first | exact .inr rfl | exact .inl rfl) [] rfl ?_)
            rw [e]
            exact ⟨rfl, rfl, trivial⟩
          · rw [if_neg (by rw [show (!inBS L H (pullN L H g a) g a b) = false from hb]; decide)] at e
            repeat first | refine lwp_seq fun K hK => ?_ | (with_reducible refine gA ?_; apply_assumption -exfalso -symm) | refine Stp.h ?_ | refine gF rfl ?_ | refine gG rfl ?_ | refine gM hC rfl sd ?_
            (refine end_intro (by first | exact .inr rfl | exact .inl rfl) [] rfl ?_)
            rw [e]
            exact ⟨rfl, rfl, trivial⟩
        · exact sd
    · exact sd

end Go.Proofs.YtccddhoeampdjaaGreatDoor
