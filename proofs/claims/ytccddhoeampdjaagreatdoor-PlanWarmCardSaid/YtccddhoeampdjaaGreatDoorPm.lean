/- PlanWarm: what the law asks of pulls and of quotients. -/
import Derived.Test.YtccddhoeampdjaaGreatDoorPj
set_option linter.unusedVariables false
set_option linter.unusedSimpArgs false
namespace Go.Proofs.YtccddhoeampdjaaGreatDoor
open Go.RowKit Go.Sym

theorem railB_of {L H E g : Int} (h1 : 1 ≤ L ∧ L ≤ 1000000) (h2 : -1000 ≤ H ∧ H ≤ 1000) (h3 : 0 ≤ E ∧ E ≤ L) (h4 : 1 ≤ g ∧ g ≤ 1000000) : RailB L H E g := by
  have h5 := mul_in (x := L) (y := H) (A := 1000000) (B := 1000) (by omega) (by omega)
  have h6 := mul_in (x := E) (y := g) (A := 1000000) (B := 1000000) (by omega) (by omega)
  exact ⟨h1, h2, h3, h4, by omega, Int.mul_nonneg h3.1 (by omega), by omega⟩
theorem railS_ok {L H E : Int} (h1 : 1 ≤ L ∧ L ≤ 1000000) (h2 : -1000 ≤ H ∧ H ≤ 1000) (h3 : 0 ≤ E ∧ E ≤ L) : railS L H E = 0 := by
  unfold railS
  rw [firstS_cons, firstS_cons, firstS_cons]
  exact ⟨withinS_zero.2 h1, withinS_zero.2 h2, withinS_zero.2 h3, rfl⟩
/-- What is valid. -/
structure WarmB (L H g a b : Int) : Prop where
  p : PullB L H g a b
  g0 : growS g = 0
  b0 : bandS a b = 0
  b1 : 1 ≤ L ∧ L ≤ 1000000
  b2 : -1000 ≤ H ∧ H ≤ 1000
  b3 : 1 ≤ g ∧ g ≤ 1000000
  arg : argE L H g a b = 0
theorem warmB {L H E g a b : Int} (hr : railS L H E = 0) (hg : growS g = 0) (hb : bandS a b = 0) : WarmB L H g a b := by
  obtain ⟨h1, h2, h3⟩ := railS_zero hr
  have hA : argE L H g a b = 0 := by
    unfold argE
    rw [firstS_cons, firstS_cons, firstS_cons]
    exact ⟨railS_ok h1 h2 (by omega), hg, hb, rfl⟩
  exact ⟨argB hA, hg, hb, h1, h2, withinS_zero.1 hg, hA⟩
theorem WarmB.inb {L H g a b : Int} (h : WarmB L H g a b) {m : Int} (hm : 0 ≤ m ∧ m ≤ L) : inbS L H m g a b = (inBS L H m g a b, 0) := by
  have : bandE L H m g a b = 0 := by
    unfold bandE
    rw [firstS_cons, firstS_cons, firstS_cons]
    exact ⟨railS_ok h.b1 h.b2 hm, h.g0, h.b0, rfl⟩
  exact if_pos this
theorem inBS_iff {L H E g a b : Int} : inBS L H E g a b = true ↔ a * L ≤ heatZ L H E g ∧ heatZ L H E g ≤ b * L := by
  unfold inBS
  by_cases h1 : heatZ L H E g ≥ a * L <;> by_cases h2 : heatZ L H E g ≤ b * L <;> simp [h1, h2]
theorem pullN_le {L H g a b : Int} (h : WarmB L H g a b) : max 0 (a - H) * L ≤ pullN L H g a * g ∧ ∀ m, 0 ≤ m → m < pullN L H g a → m * g < max 0 (a - H) * L := by
  have h3 := h.b3
  have h1 := Int.emod_add_mul_ediv (max 0 (a - H) * L + g - 1) g
  have h2 := Int.emod_nonneg (max 0 (a - H) * L + g - 1) (show g ≠ 0 by omega)
  have h4 := Int.emod_lt_of_pos (max 0 (a - H) * L + g - 1) (show 0 < g by omega)
  have hc : g * pullN L H g a = pullN L H g a * g := Int.mul_comm _ _
  change _ + g * pullN L H g a = _ at h1
  refine ⟨by omega, fun m hm hlt => ?_⟩
  have h5 := Int.mul_le_mul_of_nonneg_right (show m + 1 ≤ pullN L H g a by omega) (show 0 ≤ g by omega)
  rw [Int.add_mul, Int.one_mul] at h5
  omega
theorem heat_at {L H E g a : Int} : a * L ≤ heatZ L H E g ↔ (a - H) * L ≤ E * g := by
  unfold heatZ
  rw [Int.sub_mul, Int.mul_comm H L]
  omega
theorem max_mul {x L : Int} (hL : 1 ≤ L) : max 0 x * L = max 0 (x * L) := by
  by_cases h : 0 ≤ x
  · have := Int.mul_nonneg h (show 0 ≤ L by omega)
    rw [show max 0 x = x by omega]; omega
  · have : x * L ≤ 0 := Int.mul_nonpos_of_nonpos_of_nonneg (by omega) (by omega)
    rw [show max 0 x = 0 by omega, Int.zero_mul]; omega
/-- By one unit less it is not in the band. -/
theorem warm_less {L H g a b : Int} (h : WarmB L H g a b) (hn : pullN L H g a > 0) : inBS L H (pullN L H g a - 1) g a b = false := by
  have h1 := (pullN_le h).2 (pullN L H g a - 1) (by omega) (by omega)
  rw [max_mul h.b1.1] at h1
  have h0 : 0 ≤ (pullN L H g a - 1) * g := Int.mul_nonneg (by omega) (by have := h.b3; omega)
  cases e : inBS L H (pullN L H g a - 1) g a b with
  | false => rfl
  | true =>
    have := heat_at.1 (inBS_iff.1 e).1
    omega
/-- Without a pull no extension is one. -/
theorem warm_none {L H g a b : Int} (h : WarmB L H g a b) (hbad : pullBad L H g a b = true) {m : Int} (hm : 0 ≤ m ∧ m ≤ L) : inBS L H m g a b = false := by
  cases e : inBS L H m g a b with
  | false => rfl
  | true =>
    obtain ⟨e1, e2⟩ := inBS_iff.1 e
    have e3 := heat_at.1 e1
    have hmn : pullN L H g a ≤ m := by
      rcases Int.lt_or_le m (pullN L H g a) with hlt | hle
      · have h1 := (pullN_le h).2 m hm.1 hlt
        rw [max_mul h.b1.1] at h1
        have h0 : 0 ≤ m * g := Int.mul_nonneg hm.1 (by have := h.b3; omega)
        omega
      · exact hle
    unfold pullBad at hbad
    rw [decide_eq_false (show ¬ pullN L H g a > L by omega)] at hbad
    have hbad : inBS L H (pullN L H g a) g a b = false := by simpa using hbad
    have h1 := (pullN_le h).1
    rw [max_mul h.b1.1] at h1
    have h5 := Int.mul_le_mul_of_nonneg_right hmn (show 0 ≤ g by have := h.b3; omega)
    have : inBS L H (pullN L H g a) g a b = true := inBS_iff.2 ⟨heat_at.2 (by omega), by
      unfold heatZ at e2 ⊢
      omega⟩
    rw [this] at hbad
    cases hbad
theorem pull_three {L H g a b : Int} (h : WarmB L H g a b) : (H > b ∧ pullS L H g a b = (0, 30)) ∨ (pullBad L H g a b = true ∧ pullS L H g a b = (0, 18)) ∨
    ((0 ≤ pullN L H g a ∧ pullN L H g a ≤ L) ∧ inBS L H (pullN L H g a) g a b = true ∧ pullS L H g a b = (pullN L H g a, 0)) := by
  have hE := pullE_when h.arg
  by_cases h1 : H > b
  · rw [decide_eq_true h1] at hE
    exact .inl ⟨h1, by unfold pullS; rw [hE]; rfl⟩
  · rw [decide_eq_false h1] at hE
    have e : pullS L H g a b = if pullBad L H g a b = true then (0, 18) else (pullN L H g a, 0) := if_pos hE
    by_cases h2 : pullBad L H g a b = true
    · rw [if_pos h2] at e
      exact .inr (.inl ⟨h2, e⟩)
    · rw [if_neg h2] at e
      unfold pullBad at h2
      by_cases h3 : pullN L H g a > L
      · rw [decide_eq_true h3] at h2; exact absurd rfl h2
      · rw [decide_eq_false h3] at h2
        exact .inr (.inr ⟨⟨h.p.b6.1, by omega⟩, by simpa using h2, e⟩)

/-! Quotients. -/
structure RtB (n d : Int) : Prop where
  n0 : n = (Int.gcd n d : Int) * rtN n d
  d0 : d = (Int.gcd n d : Int) * rtD n d
  g0 : 0 < (Int.gcd n d : Int)
  co : Int.gcd (rtN n d) (rtD n d) = 1
  dp : 1 ≤ rtD n d
theorem rtB {n d : Int} (hd : 1 ≤ d) : RtB n d := by
  have hg : 0 < Int.gcd n d := Int.gcd_pos_of_ne_zero_right _ (by omega)
  have h1 : (Int.gcd n d : Int) ∣ n := Int.gcd_dvd_left ..
  have h2 : (Int.gcd n d : Int) ∣ d := Int.gcd_dvd_right ..
  have e1 : (Int.gcd n d : Int) * rtN n d = n := Int.mul_tdiv_cancel' h1
  have e2 : (Int.gcd n d : Int) * rtD n d = d := Int.mul_tdiv_cancel' h2
  refine ⟨e1.symm, e2.symm, by omega, ?_, ?_⟩
  · have k1 : n.natAbs = Int.gcd n d * (rtN n d).natAbs := by
      have := congrArg Int.natAbs e1; rw [Int.natAbs_mul] at this; simpa using this.symm
    have k2 : d.natAbs = Int.gcd n d * (rtD n d).natAbs := by
      have := congrArg Int.natAbs e2; rw [Int.natAbs_mul] at this; simpa using this.symm
    have k3 : Nat.gcd n.natAbs d.natAbs = Int.gcd n d * Nat.gcd (rtN n d).natAbs (rtD n d).natAbs := by rw [k1, k2, Nat.gcd_mul_left]
    have k4 : Int.gcd n d = Int.gcd n d * Int.gcd (rtN n d) (rtD n d) := k3
    exact Nat.eq_of_mul_eq_mul_left hg (by rw [← k4, Nat.mul_one])
  · rcases Int.lt_or_le (rtD n d) 1 with h | h
    · have := Int.mul_nonpos_of_nonneg_of_nonpos (show 0 ≤ (Int.gcd n d : Int) by omega) (show rtD n d ≤ 0 by omega)
      omega
    · exact h
theorem rt_ratio {n d : Int} (hd : 1 ≤ d) (hb : rtBig n d = false) : ratS (rtN n d) (rtD n d) = 0 := by
  have h := rtB (n := n) hd
  have h1 := of_decide_eq_false hb
  have hz : numsS (rtN n d) (rtD n d) = 0 := by
    unfold numsS
    rw [firstS_cons, firstS_cons]
    exact ⟨withinS_zero.2 (by omega), withinS_zero.2 ⟨h.dp, by omega⟩, rfl⟩
  unfold ratS
  rw [if_pos hz, h.co]
  rfl
theorem scale {p q : Int} (hp : 0 < p) (hq : 0 < q) (N D M E : Int) : N * E ≤ M * D ↔ p * N * (q * E) ≤ q * M * (p * D) := by
  have hpq : 0 < p * q := Int.mul_pos hp hq
  have e1 : p * N * (q * E) = p * q * (N * E) := by rw [Int.mul_assoc, Int.mul_assoc, Int.mul_left_comm N]
  have e2 : q * M * (p * D) = p * q * (M * D) := by rw [Int.mul_comm p q, Int.mul_assoc, Int.mul_assoc, Int.mul_left_comm M]
  rw [e1, e2]
  exact ⟨fun h => Int.mul_le_mul_of_nonneg_left h (by omega), fun h => Int.le_of_mul_le_mul_left h hpq⟩
theorem rt_le {n d m e : Int} (hd : 1 ≤ d) (he : 1 ≤ e) : rtN n d * rtD m e ≤ rtN m e * rtD n d ↔ n * e ≤ m * d := by
  have h1 := rtB (n := n) hd
  have h2 := rtB (n := m) he
  have k := scale h1.g0 h2.g0 (rtN n d) (rtD n d) (rtN m e) (rtD m e)
  rw [← h1.n0, ← h1.d0, ← h2.n0, ← h2.d0] at k
  exact k
/-- What is welded together lies between both. -/
theorem between {n d m e : Int} (h : n * e ≤ m * d) : n * (d + e) ≤ (n + m) * d ∧ (n + m) * e ≤ m * (d + e) := by
  rw [Int.mul_add, Int.add_mul, Int.add_mul, Int.mul_add]
  omega
theorem neu_zero {L H g : Int} (hL : 1 ≤ L ∧ L ≤ 1000000) (hH : -1000 ≤ H ∧ H ≤ 1000) (hg : growS g = 0) : neuS L H 0 g = ((H, 1), 0) := by
  have hz : nRailE L H 0 g = 0 := by
    unfold nRailE
    rw [firstS_cons, firstS_cons]
    exact ⟨railS_ok hL hH (by omega), hg, rfl⟩
  have e : neuS L H 0 g = rtS (heatZ L H 0 g) L := if_pos hz
  have eh : heatZ L H 0 g = L * H := by unfold heatZ; rw [Int.zero_mul]; omega
  have eg : (Int.gcd (L * H) L : Int) = L := by
    have : Int.gcd (L * H) L = L.natAbs := by
      unfold Int.gcd
      rw [Int.natAbs_mul]
      exact Nat.gcd_eq_right (Nat.dvd_mul_right _ _)
    omega
  have e1 : rtN (L * H) L = H := by unfold rtN; rw [eg]; exact Int.mul_tdiv_cancel_left _ (by omega)
  have e2 : rtD (L * H) L = 1 := by unfold rtD; rw [eg]; exact Int.tdiv_self (by omega)
  rw [e, eh]
  unfold rtS
  rw [if_neg, e1, e2]
  unfold rtBig
  rw [e1, e2, decide_eq_true_iff]
  omega
def cmpZ (x y z w : Int) : Int := if x * w < z * y then -1 else if x * w > z * y then 1 else 0
theorem cmpZ_pos {x y z w : Int} : cmpZ x y z w > 0 ↔ z * y < x * w := by
  unfold cmpZ; split <;> (try split) <;> omega
def RCmp_i (x y z w : Int) : Inst := { f := 72, hin := [], args := [.agg [i64 x, i64 y], .agg [i64 z, i64 w]], hout := [], ret := i64 (cmpZ x y z w), σ := [] }
theorem RCmp_s (x y z w : Int) (hx : -999999999 ≤ x ∧ x ≤ 999999999) (hy : 1 ≤ y ∧ y ≤ 999999999) (hz : -999999999 ≤ z ∧ z ≤ 999999999) (hw : 1 ≤ w ∧ w ≤ 999999999) : (RCmp_i x y z w).ok Tryz.prog := by
  have h1 := mul_in (x := x) (y := w) (A := 999999999) (B := 999999999) (by omega) (by omega)
  have h2 := mul_in (x := z) (y := y) (A := 999999999) (B := 999999999) (by omega) (by omega)
  unfold RCmp_i Inst.ok; dsimp only; refine spec_of_body (tys := tys) 0 Tryz.func72 (by kernel_rfl) rfl tys_ok rfl (Nat.le_of_ble_eq_true rfl) (fun _ _ h => (by cases h)) fun F hP hm hC hrd => ?_; conv => whnf
  repeat first | refine lwp_seq fun K hK => ?_ | (with_reducible refine gA ?_; apply_assumption -exfalso -symm) | refine Stp.h ?_ | refine gF rfl ?_ | refine gG rfl ?_ | refine gM hC rfl ⟨⟩ ?_
  (refine lwp_drawn hC (by rw [hP]; exact mixed) ⟨[], [], []⟩ (told0 _ _) [0, 1, 0, 4, 15, 0, 32, 0, 128, 480, 31, 2047] 11 rfl ?_ ?_; rotate_left 1)
  · repeat first | refine lwp_seq fun K hK => ?_ | (with_reducible refine gA ?_; apply_assumption -exfalso -symm) | refine Stp.h ?_ | refine gF rfl ?_ | refine gG rfl ?_ | refine gM hC rfl sd ?_
    refine lwp_condS hC rfl sd ?_ ?_ <;> intro hb
    · have e : cmpZ x y z w = -1 := if_pos hb
      repeat first | refine lwp_seq fun K hK => ?_ | (with_reducible refine gA ?_; apply_assumption -exfalso -symm) | refine Stp.h ?_ | refine gF rfl ?_ | refine gG rfl ?_ | refine gM hC rfl sd ?_
      (refine end_intro (by first | exact .inr rfl | exact .inl rfl) [] rfl ?_)
      rw [e]
      exact ⟨rfl, trivial⟩
    · have h3 := hb
      clear hb
      repeat first | refine lwp_seq fun K hK => ?_ | (with_reducible refine gA ?_; apply_assumption -exfalso -symm) | refine Stp.h ?_ | refine gF rfl ?_ | refine gG rfl ?_ | refine gM hC rfl sd ?_
      refine lwp_condS hC rfl sd ?_ ?_ <;> intro hb
      · have e : cmpZ x y z w = 1 := (if_neg h3).trans (if_pos hb)
        repeat first | refine lwp_seq fun K hK => ?_ | (with_reducible refine gA ?_; apply_assumption -exfalso -symm) | refine Stp.h ?_ | refine gF rfl ?_ | refine gG rfl ?_ | refine gM hC rfl sd ?_
        (refine end_intro (by first | exact .inr rfl | exact .inl rfl) [] rfl ?_)
        rw [e]
        exact ⟨rfl, trivial⟩
      · have e : cmpZ x y z w = 0 := (if_neg h3).trans (if_neg hb)
        repeat first | refine lwp_seq fun K hK => ?_ | (with_reducible refine gA ?_; apply_assumption -exfalso -symm) | refine Stp.h ?_ | refine gF rfl ?_ | refine gG rfl ?_ | refine gM hC rfl sd ?_
        (refine end_intro (by first | exact .inr rfl | exact .inl rfl) [] rfl ?_)
        rw [e]
        exact ⟨rfl, trivial⟩
  · exact sd

end Go.Proofs.YtccddhoeampdjaaGreatDoor
