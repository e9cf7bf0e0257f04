/- PlanBounds: the reference's bound, and the law. -/
import Derived.Test.YtccddhoeampdjaaGreatDoorOj
import Derived.Test.YtccddhoeampdjaaGreatDoorOc
import Derived.Test.YtccddhoeampdjaaGreatDoorPx
set_option linter.unusedVariables false
set_option linter.unusedSimpArgs false
namespace Go.Proofs.YtccddhoeampdjaaGreatDoor
open Go.RowKit Go.Sym

/-! Sums of quotients. -/
def plN (N : Int) (D : Nat) (n : Int) (d : Nat) : Int := N * ((d / Nat.gcd D d : Nat) : Int) + n * ((D / Nat.gcd D d : Nat) : Int)
def plD (D d : Nat) : Nat := D / Nat.gcd D d * d
theorem plD_dvd {D d : Nat} (h1 : D ∣ 27720) (h2 : d ∣ 27720) : plD D d ∣ 27720 := by
  unfold plD
  have e : D / Nat.gcd D d * d = Nat.lcm D d := by
    unfold Nat.lcm
    rw [Nat.div_mul_right_comm (Nat.gcd_dvd_left D d)]
  rw [e]
  exact Nat.lcm_dvd h1 h2
theorem plN_eq {N n t u : Int} {D d : Nat} (hD : 1 ≤ D) (h1 : N * 27720 = t * D) (h2 : n * 27720 = u * d) : plN N D n d * 27720 = (t + u) * (plD D d : Nat) := by
  have hg : 0 < Nat.gcd D d := Nat.gcd_pos_of_pos_left _ (by omega)
  obtain ⟨a, ha⟩ := Nat.gcd_dvd_left D d
  obtain ⟨b, hb⟩ := Nat.gcd_dvd_right D d
  unfold plN plD
  generalize Nat.gcd D d = g at *
  have e1 : D / g = a := by rw [ha, Nat.mul_div_cancel_left _ hg]
  have e2 : d / g = b := by rw [hb, Nat.mul_div_cancel_left _ hg]
  rw [e1, e2]
  have k1 : (D : Int) = g * a := by rw [ha]; exact Int.natCast_mul g a
  have k2 : (d : Int) = g * b := by rw [hb]; exact Int.natCast_mul g b
  rw [k1] at h1
  rw [k2] at h2
  rw [Int.natCast_mul, k2, Int.add_mul, Int.mul_right_comm, h1, Int.mul_right_comm n, h2]
  simp only [Int.add_mul, Int.mul_assoc, Int.mul_comm, Int.mul_left_comm]
structure SumOk (N : Int) (D : Nat) (t : Int) : Prop where
  e : N * 27720 = t * D
  dv : D ∣ 27720
  p : 1 ≤ D ∧ D ≤ 27720
  t0 : 0 ≤ t ∧ t ≤ 150000000000000000
  n : 0 ≤ N ∧ N ≤ 150000000000000000
theorem sumOk2 {N t : Int} {D : Nat} (e : N * 27720 = t * D) (dv : D ∣ 27720) (t0 : 0 ≤ t ∧ t ≤ 150000000000000000) : SumOk N D t := by
  have h1 : 1 ≤ D := Nat.pos_of_dvd_of_pos dv (by decide)
  have h2 : D ≤ 27720 := Nat.le_of_dvd (by decide) dv
  have h3 : 0 ≤ t * (D : Int) := Int.mul_nonneg t0.1 (by omega)
  have h4 : t * (D : Int) ≤ t * 27720 := Int.mul_le_mul_of_nonneg_left (by omega) t0.1
  exact ⟨e, dv, ⟨h1, h2⟩, t0, by omega, by omega⟩
theorem SumOk.plus {N n t u : Int} {D d : Nat} (h : SumOk N D t) (h2 : n * 27720 = u * d) (hd : d ∣ 27720) (ht : 0 ≤ t + u ∧ t + u ≤ 150000000000000000) : SumOk (plN N D n d) (plD D d) (t + u) :=
  sumOk2 (plN_eq h.p.1 h.e h2) (plD_dvd h.dv hd) ht
def RPlus_i (N : Int) (D : Nat) (n : Int) (d : Nat) : Inst := { f := 107, hin := [], args := [.agg [i64 N, i64 D], .agg [i64 n, i64 d]], hout := [], ret := .agg [i64 (plN N D n d), i64 (plD D d)], σ := [] }
set_option maxRecDepth 20000 in
theorem RPlus_s (N : Int) (D : Nat) (n : Int) (d : Nat) (hN : 0 ≤ N ∧ N ≤ 150000000000000000) (hD : 1 ≤ D ∧ D ≤ 27720) (hn : 0 ≤ n ∧ n ≤ 1000000000000) (hd : 1 ≤ d ∧ d ≤ 12) : (RPlus_i N D n d).ok Tryz.prog := by
  have hg : Int.gcd (D : Int) (d : Int) = Nat.gcd D d := rfl
  have hg0 : 0 < Nat.gcd D d := Nat.gcd_pos_of_pos_left _ (by omega)
  obtain ⟨p, hp⟩ : ∃ p, d / Nat.gcd D d = p := ⟨_, rfl⟩
  obtain ⟨q, hq⟩ : ∃ q, D / Nat.gcd D d = q := ⟨_, rfl⟩
  have e1 : Int.tdiv (d : Int) (Nat.gcd D d : Nat) = (p : Int) := by rw [Int.tdiv_eq_ediv_of_nonneg (by omega), ← hp]; rfl
  have e2 : Int.tdiv (D : Int) (Nat.gcd D d : Nat) = (q : Int) := by rw [Int.tdiv_eq_ediv_of_nonneg (by omega), ← hq]; rfl
  have k1 : p ≤ 12 := by rw [← hp]; exact Nat.le_trans (Nat.div_le_self _ _) hd.2
  have k2 : q ≤ 27720 := by rw [← hq]; exact Nat.le_trans (Nat.div_le_self _ _) hD.2
  have eN : plN N D n d = N * p + n * q := by unfold plN; rw [hp, hq]
  have eD : ((plD D d : Nat) : Int) = (q : Int) * d := by unfold plD; rw [hq]; exact Int.natCast_mul _ _
  have a1 := mul_in (x := N) (y := (p : Int)) (A := 150000000000000000) (B := 12) (by omega) (by omega)
  have a2 := mul_in (x := n) (y := (q : Int)) (A := 1000000000000) (B := 27720) (by omega) (by omega)
  have a3 := mul_in (x := (q : Int)) (y := (d : Int)) (A := 27720) (B := 12) (by omega) (by omega)
  clear hp hq
  unfold RPlus_i Inst.ok; dsimp only; refine spec_of_body (tys := tys) 0 Tryz.func107 (by kernel_rfl) rfl tys_ok rfl (Nat.le_of_ble_eq_true rfl) (fun _ _ h => (by cases h)) fun F hP hm hC hrd => ?_; conv => whnf
  repeat first | refine lwp_seq fun K hK => ?_ | (with_reducible refine gA ?_; apply_assumption -exfalso -symm) | refine Stp.h ?_ | refine gF rfl ?_ | refine gG rfl ?_ | refine gM hC rfl ⟨⟩ ?_
  (refine lwp_region hC ⟨[], [], [(4, RDiv_i D d)]⟩ (told1 _ (by rw [hP]; exact (calls_cons (RDiv_s _ _ (by omega) (by omega)) calls_nil))) rfl ?_ ?_; rotate_left 1)
  · rw [hg]
    repeat first | refine lwp_seq fun K hK => ?_ | (with_reducible refine gA ?_; apply_assumption -exfalso -symm) | refine Stp.h ?_ | refine gF rfl ?_ | refine gG rfl ?_ | refine gM hC rfl ⟨⟩ ?_
    (refine lwp_drawn2 hC (by rw [hP]; exact mixed) ⟨[], [], []⟩ (told0 _ _) [0, 1, 0, 4, 0, 28, 63, 0, 128, 0, 512, 0, 3584, 8064, 16383, 0, 32768, 0, 229376, 0, 524288, 2064384, 4194303, 8388607] 23 0 rfl ?_ ?_; rotate_left 1)
    · rw [e1, e2]
      repeat first | refine lwp_seq fun K hK => ?_ | (with_reducible refine gA ?_; apply_assumption -exfalso -symm) | refine Stp.h ?_ | refine gF rfl ?_ | refine gG rfl ?_ | refine gM hC rfl sd ?_
      (refine end_intro (by first | exact .inr rfl | exact .inl rfl) [] rfl ?_)
      exact ⟨eD, eN, trivial⟩
    · rw [e1, e2]
      exact sd
  · exact sd

/-! The reference's sums, with their denominators. -/
def sumR (T : List Shf) (l : List Z2) : Nat → Int × Nat
  | 0 => (0, 1)
  | k + 1 => (plN (sumR T l k).1 (sumR T l k).2 ((l.getD k z2D).x * (T.getD k shfD).hr) (l.getD k z2D).y.toNat, plD (sumR T l k).2 (l.getD k z2D).y.toNat)
def mostR (S : List Sec) (T : List Shf) (l : List Z2) (i : Nat) : Nat → Int × Nat
  | 0 => (0, 1)
  | k + 1 => if (inTimeB S T i k && decide (((S.getD i secD).vl * (l.getD k z2D).y - (S.getD i secD).wk * (l.getD k z2D).x) * (mostR S T l i k).2 > (mostR S T l i k).1 * (l.getD k z2D).y)) = true then ((S.getD i secD).vl * (l.getD k z2D).y - (S.getD i secD).wk * (l.getD k z2D).x, (l.getD k z2D).y.toNat) else mostR S T l i k
def totR (S : List Sec) (T : List Shf) (l : List Z2) : Nat → Int × Nat
  | 0 => sumR T l T.length
  | i + 1 => (plN (totR S T l i).1 (totR S T l i).2 (mostR S T l i T.length).1 (mostR S T l i T.length).2, plD (totR S T l i).2 (mostR S T l i T.length).2)
theorem yNat {S : List Sec} {T : List Shf} {l : List Z2} (h : BndB S T l) {k : Nat} (hk : k < l.length) : (((l.getD k z2D).y.toNat : Nat) : Int) = (l.getD k z2D).y ∧ (l.getD k z2D).y.toNat ∣ 27720 ∧ 1 ≤ (l.getD k z2D).y.toNat ∧ (l.getD k z2D).y.toNat ≤ 12 := by
  have h1 := (h.pr k hk).hy
  have e : (((l.getD k z2D).y.toNat : Nat) : Int) = (l.getD k z2D).y := by omega
  have h2 := (h.pr k hk).dv
  rw [← e] at h2
  exact ⟨e, Int.natCast_dvd_natCast.1 h2, by omega, by omega⟩
theorem sumR_ok {S : List Sec} {T : List Shf} {l : List Z2} (h : BndB S T l) : ∀ k : Nat, k ≤ l.length → SumOk (sumR T l k).1 (sumR T l k).2 (sumH T l k)
  | 0, _ => sumOk2 (by simp [sumR, sumH]) (Nat.one_dvd 27720) (by simp [sumH])
  | k + 1, hk => by
    have ih := sumR_ok h k (by omega)
    obtain ⟨y1, y2, y3, y4⟩ := yNat h (show k < l.length by omega)
    have hp := h.pr k (by omega)
    have h5 := sumH_in h (k + 1)
    have hT := h.B.lT
    have hl := h.len
    refine ih.plus ?_ y2 ⟨?_, ?_⟩
    · rw [y1, Int.mul_right_comm (cZ _), hp.hd, Int.mul_right_comm]
    · have := h5.1; simp only [sumH] at this; exact this
    · have := h5.2; simp only [sumH] at this; omega
structure MostOk (N : Int) (D : Nat) (t : Int) : Prop where
  e : N * 27720 = t * D
  dv : D ∣ 27720
  p : 1 ≤ D ∧ D ≤ 12
  n : 0 ≤ N ∧ N ≤ 12000000
theorem mostR_ok {S : List Sec} {T : List Shf} {l : List Z2} (h : BndB S T l) (i : Nat) : ∀ k : Nat, k ≤ l.length → MostOk (mostR S T l i k).1 (mostR S T l i k).2 (mostZ S T l i k)
  | 0, _ => ⟨by simp [mostR, mostZ], Nat.one_dvd 27720, by simp [mostR], by simp [mostR]⟩
  | k + 1, hk => by
    have ih := mostR_ok h i k (by omega)
    obtain ⟨y1, y2, y3, y4⟩ := yNat h (show k < l.length by omega)
    have hp := h.pr k (by omega)
    have hv := h.B.vl i
    have hw := h.B.wk i
    simp only [mostR, mostZ]
    cases ht : inTimeB S T i k with
    | false => simpa using ih
    | true =>
      have e1 : ((S.getD i secD).vl * (l.getD k z2D).y - (S.getD i secD).wk * (l.getD k z2D).x) * 27720 = ((S.getD i secD).vl * 27720 - (S.getD i secD).wk * cZ (l.getD k z2D)) * (l.getD k z2D).y := by
        rw [Int.sub_mul, Int.sub_mul, Int.mul_right_comm, Int.mul_assoc (S.getD i secD).wk, Int.mul_assoc (S.getD i secD).wk, hp.hd]
      generalize hX : (S.getD i secD).vl * (l.getD k z2D).y - (S.getD i secD).wk * (l.getD k z2D).x = X at *
      generalize hY : (S.getD i secD).vl * 27720 - (S.getD i secD).wk * cZ (l.getD k z2D) = Y at *
      obtain ⟨f1, f2, f3, f4⟩ := ih
      generalize hNN : (mostR S T l i k).1 = N at *
      generalize hDD : (mostR S T l i k).2 = D at *
      generalize mostZ S T l i k = t at *
      have hy := hp.hy
      generalize (l.getD k z2D).y = y at *
      have hiff : X * (D : Int) > N * y ↔ Y > t := by
        have a1 : X * (D : Int) * 27720 = Y * ((D : Int) * y) := by rw [Int.mul_right_comm, e1, Int.mul_assoc, Int.mul_comm y]
        have a2 : N * y * 27720 = t * ((D : Int) * y) := by rw [Int.mul_right_comm, f1, Int.mul_assoc]
        have hpos : 0 < (D : Int) * y := Int.mul_pos (by omega) (by omega)
        constructor
        · intro hh
          rcases Int.lt_or_le t Y with hlt | hle
          · exact hlt
          · have := Int.mul_le_mul_of_nonneg_right hle (show 0 ≤ (D : Int) * y by omega)
            omega
        · intro hh
          have := Int.mul_lt_mul_of_pos_right hh hpos
          omega
      by_cases hg : Y > t
      · rw [if_pos hg, if_pos (by simp; exact hiff.2 hg)]
        have hXb : X ≤ 12000000 := by
          have b1 := Int.mul_le_mul hv.2 hy.2 (by omega) (by decide)
          have b2 := Int.mul_nonneg hw.1 hp.hx.1
          omega
        have hX0 : 0 ≤ X := by
          have : 0 ≤ t * (D : Int) := by omega
          have ht0 : 0 ≤ t := by
            rcases Int.lt_or_le t 0 with h0 | h0
            · have := Int.mul_neg_of_neg_of_pos h0 (show 0 < (D : Int) by omega); omega
            · exact h0
          have : 0 ≤ Y * y := Int.mul_nonneg (by omega) (by omega)
          omega
        exact ⟨by rw [e1, y1, if_pos rfl], y2, ⟨y3, y4⟩, hX0, hXb⟩
      · rw [if_neg hg, if_neg (by simp; have := fun h => hg (hiff.1 h); omega)]
        simp only [if_true]
        subst hDD
        subst hNN
        exact ⟨f1, f2, f3, f4⟩
theorem totR_ok {S : List Sec} {T : List Shf} {l : List Z2} (h : BndB S T l) : ∀ i : Nat, i ≤ S.length → SumOk (totR S T l i).1 (totR S T l i).2 (sumH T l T.length + sumM S T l i)
  | 0, _ => by
    have := sumR_ok h T.length (by rw [h.len]; exact Nat.le_refl _)
    simpa [totR, sumM] using this
  | i + 1, hi => by
    have ih := totR_ok h i (by omega)
    have hm := mostR_ok h i T.length (by rw [h.len]; exact Nat.le_refl _)
    have h1 := sumM_in h (i + 1)
    have h2 := sumH_in h T.length
    have hT := h.B.lT
    have hS := h.B.lS
    have e : sumH T l T.length + sumM S T l (i + 1) = sumH T l T.length + sumM S T l i + mostZ S T l i T.length := by simp only [sumM]; omega
    rw [e]
    refine ih.plus hm.e hm.dv ⟨by omega, by omega⟩

end Go.Proofs.YtccddhoeampdjaaGreatDoor
