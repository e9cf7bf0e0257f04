/- Chapter 9: rails: the program's checks, sums and quotients, and the reference's. -/
import Derived.Test.YtccddhoeampdjaaGreatDoorPb
set_option linter.unusedVariables false
set_option linter.unusedSimpArgs false
namespace Go.Proofs.YtccddhoeampdjaaGreatDoor
open Go.RowKit Go.Sym

theorem mul_in {x y A B : Int} (hx : -A ≤ x ∧ x ≤ A) (hy : -B ≤ y ∧ y ≤ B) : -(A * B) ≤ x * y ∧ x * y ≤ A * B := by
  have h1 : x.natAbs ≤ A.toNat := by omega
  have h2 : y.natAbs ≤ B.toNat := by omega
  have h3 := Nat.mul_le_mul h1 h2
  rw [← Int.natAbs_mul] at h3
  have h4 : ((A.toNat * B.toNat : Nat) : Int) = A * B := by
    rw [Int.natCast_mul, Int.toNat_of_nonneg (by omega), Int.toNat_of_nonneg (by omega)]
  omega
def railS (L H E : Int) : Int := firstS [withinS L 1 1000000, withinS H (-1000) 1000, withinS E 0 L]
def growS (g : Int) : Int := withinS g 1 1000000
def bandS (a b : Int) : Int := firstS [withinS a (-1000) 1000, withinS b (-1000) 1000, whenS (decide (a > b)) 11]
theorem railS_zero {L H E : Int} (h : railS L H E = 0) : (1 ≤ L ∧ L ≤ 1000000) ∧ (-1000 ≤ H ∧ H ≤ 1000) ∧ 0 ≤ E ∧ E ≤ L := by
  have h1 := (firstS_cons _ _).1 h
  have h2 := (firstS_cons _ _).1 h1.2
  exact ⟨withinS_zero.1 h1.1, withinS_zero.1 h2.1, withinS_zero.1 ((firstS_cons _ _).1 h2.2).1⟩
theorem bandS_zero {a b : Int} (h : bandS a b = 0) : (-1000 ≤ a ∧ a ≤ 1000) ∧ (-1000 ≤ b ∧ b ≤ 1000) ∧ a ≤ b := by
  have h1 := (firstS_cons _ _).1 h
  have h2 := (firstS_cons _ _).1 h1.2
  have h3 := (whenS_zero (by decide)).1 ((firstS_cons _ _).1 h2.2).1
  have h3 := of_decide_eq_false h3
  exact ⟨withinS_zero.1 h1.1, withinS_zero.1 h2.1, by omega⟩
def heatZ (L H E g : Int) : Int := L * H + E * g
/-- What fits. -/
structure RailB (L H E g : Int) : Prop where
  b1 : 1 ≤ L ∧ L ≤ 1000000
  b2 : -1000 ≤ H ∧ H ≤ 1000
  b3 : 0 ≤ E ∧ E ≤ L
  b4 : 1 ≤ g ∧ g ≤ 1000000
  b5 : -1000000000 ≤ L * H ∧ L * H ≤ 1000000000
  b6 : 0 ≤ E * g ∧ E * g ≤ 1000000000000
theorem railB {L H E g : Int} (h : railS L H E = 0) (hg : growS g = 0) : RailB L H E g := by
  obtain ⟨h1, h2, h3⟩ := railS_zero h
  have h4 := withinS_zero.1 hg
  have h5 := mul_in (x := L) (y := H) (A := 1000000) (B := 1000) (by omega) (by omega)
  have h6 := mul_in (x := E) (y := g) (A := 1000000) (B := 1000000) (by omega) (by omega)
  exact ⟨h1, h2, h3, h4, by omega, Int.mul_nonneg h3.1 (by omega), by omega⟩
theorem RailB.heat {L H E g : Int} (h : RailB L H E g) : -1000000000 ≤ heatZ L H E g ∧ heatZ L H E g ≤ 1001000000000 := by
  obtain ⟨_, _, _, _, h5, h6⟩ := h
  unfold heatZ
  omega
def PHeat1_i (n : Int) : Inst := { f := 125, hin := [], args := [i64 n], hout := [], ret := i64 (withinS n (-1000) 1000), σ := [] }
theorem PHeat1_s (n : Int) : (PHeat1_i n).ok Tryz.prog := by
  unfold PHeat1_i Inst.ok; dsimp only; refine spec_of_body (tys := tys) 0 Tryz.func125 (by kernel_rfl) rfl tys_ok rfl (Nat.le_of_ble_eq_true rfl) (fun _ _ h => (by cases h)) fun F hP hm hC hrd => ?_; conv => whnf
  repeat first | refine lwp_seq fun K hK => ?_ | ((with_reducible refine gA ?_); apply_assumption -exfalso -symm) | refine gB ?_ | refine gC ?_ | refine gD ?_ | refine gE ?_ | refine gF rfl ?_ | refine gG rfl ?_ | refine gH ?_ | refine gI ?_ | refine gJ ?_ | refine gK ?_ | refine gL ?_ | refine gM hC rfl ⟨⟩ ?_ | refine gM hC rfl (by exact sd) ?_
  (refine lwp_region hC ⟨[], [], [(1, PWithin_i n (-1000) 1000)]⟩ (told1 _ (by rw [hP]; exact (calls_cons (PWithin_s _ _ _) calls_nil))) rfl ?_ ?_; rotate_left 1)
  · repeat first | refine lwp_seq fun K hK => ?_ | ((with_reducible refine gA ?_); apply_assumption -exfalso -symm) | refine gB ?_ | refine gC ?_ | refine gD ?_ | refine gE ?_ | refine gF rfl ?_ | refine gG rfl ?_ | refine gH ?_ | refine gI ?_ | refine gJ ?_ | refine gK ?_ | refine gL ?_ | refine gM hC rfl ⟨⟩ ?_ | refine gM hC rfl (by exact sd) ?_
    (refine end_intro (by first | exact .inr rfl | exact .inl rfl) [] rfl ?_)
    exact ⟨rfl, trivial⟩
  · exact sd
def PRail_i (L H E : Int) : Inst := { f := 55, hin := [], args := [.agg [i64 L, i64 H, i64 E]], hout := [], ret := i64 (railS L H E), σ := [] }
theorem PRail_s (L H E : Int) : (PRail_i L H E).ok Tryz.prog := by
  unfold PRail_i Inst.ok; dsimp only; refine spec_of_body (tys := tys) 0 Tryz.func55 (by kernel_rfl) rfl tys_ok rfl (Nat.le_of_ble_eq_true rfl) (fun _ _ h => (by cases h)) fun F hP hm hC hrd => ?_; conv => whnf
  repeat first | refine lwp_seq fun K hK => ?_ | ((with_reducible refine gA ?_); apply_assumption -exfalso -symm) | refine gB ?_ | refine gC ?_ | refine gD ?_ | refine gE ?_ | refine gF rfl ?_ | refine gG rfl ?_ | refine gH ?_ | refine gI ?_ | refine gJ ?_ | refine gK ?_ | refine gL ?_ | refine gM hC rfl ⟨⟩ ?_ | refine gM hC rfl (by exact sd) ?_
  (refine lwp_drawn hC (by rw [hP]; exact mixed) ⟨[], [], [(2, PWithin_i L 1 1000000), (5, PHeat1_i H), (10, PWithin_i E 0 L), (12, PFirst_i [withinS L 1 1000000, withinS H (-1000) 1000, withinS E 0 L] [(0, some 1)])]⟩ (told1 _ (by rw [hP]; exact (calls_cons (PWithin_s _ _ _) (calls_cons (PHeat1_s _) (calls_cons (PWithin_s _ _ _) (calls_cons (PFirst_s _ _ (by simp)) calls_nil)))))) [0, 1, 3, 0, 8, 31, 0, 64, 0, 256, 1023, 2047, 4095, 8191] 10 rfl ?_ ?_; rotate_left 1)
  · repeat first | refine lwp_seq fun K hK => ?_ | ((with_reducible refine gA ?_); apply_assumption -exfalso -symm) | refine gB ?_ | refine gC ?_ | refine gD ?_ | refine gE ?_ | refine gF rfl ?_ | refine gG rfl ?_ | refine gH ?_ | refine gI ?_ | refine gJ ?_ | refine gK ?_ | refine gL ?_ | refine gM hC rfl ⟨⟩ ?_ | refine gM hC rfl (by exact sd) ?_
    (refine end_intro (by first | exact .inr rfl | exact .inl rfl) [] rfl ?_)
    exact ⟨rfl, trivial⟩
  · exact sd
def RRail_i (L H E : Int) : Inst := { f := 50, hin := [], args := [.agg [i64 L, i64 H, i64 E]], hout := [], ret := i64 (railS L H E), σ := [] }
theorem RRail_s (L H E : Int) : (RRail_i L H E).ok Tryz.prog := by
  unfold RRail_i Inst.ok; dsimp only; refine spec_of_body (tys := tys) 0 Tryz.func50 (by kernel_rfl) rfl tys_ok rfl (Nat.le_of_ble_eq_true rfl) (fun _ _ h => (by cases h)) fun F hP hm hC hrd => ?_; conv => whnf
  repeat first | refine lwp_seq fun K hK => ?_ | ((with_reducible refine gA ?_); apply_assumption -exfalso -symm) | refine gB ?_ | refine gC ?_ | refine gD ?_ | refine gE ?_ | refine gF rfl ?_ | refine gG rfl ?_ | refine gH ?_ | refine gI ?_ | refine gJ ?_ | refine gK ?_ | refine gL ?_ | refine gM hC rfl ⟨⟩ ?_ | refine gM hC rfl (by exact sd) ?_
  (refine lwp_drawn hC (by rw [hP]; exact mixed) ⟨[], [], [(2, CheckRange_i L 1 1000000), (5, CheckRange_i H (-1000) 1000), (10, CheckRange_i E 0 L), (12, First_i [withinS L 1 1000000, withinS H (-1000) 1000, withinS E 0 L] [(0, some 1)])]⟩ (told1 _ (by rw [hP]; exact (calls_cons (CheckRange_s _ _ _) (calls_cons (CheckRange_s _ _ _) (calls_cons (CheckRange_s _ _ _) (calls_cons (First_s _ _ (by simp)) calls_nil)))))) [0, 1, 3, 0, 8, 31, 0, 64, 0, 256, 1023, 2047, 4095, 8191] 10 rfl ?_ ?_; rotate_left 1)
  · repeat first | refine lwp_seq fun K hK => ?_ | ((with_reducible refine gA ?_); apply_assumption -exfalso -symm) | refine gB ?_ | refine gC ?_ | refine gD ?_ | refine gE ?_ | refine gF rfl ?_ | refine gG rfl ?_ | refine gH ?_ | refine gI ?_ | refine gJ ?_ | refine gK ?_ | refine gL ?_ | refine gM hC rfl ⟨⟩ ?_ | refine gM hC rfl (by exact sd) ?_
    (refine end_intro (by first | exact .inr rfl | exact .inl rfl) [] rfl ?_)
    exact ⟨rfl, trivial⟩
  · exact sd
def PGrow_i (g : Int) : Inst := { f := 117, hin := [], args := [i64 g], hout := [], ret := i64 (growS g), σ := [] }
theorem PGrow_s (g : Int) : (PGrow_i g).ok Tryz.prog := by
  unfold PGrow_i Inst.ok; dsimp only; refine spec_of_body (tys := tys) 0 Tryz.func117 (by kernel_rfl) rfl tys_ok rfl (Nat.le_of_ble_eq_true rfl) (fun _ _ h => (by cases h)) fun F hP hm hC hrd => ?_; conv => whnf
  repeat first | refine lwp_seq fun K hK => ?_ | ((with_reducible refine gA ?_); apply_assumption -exfalso -symm) | refine gB ?_ | refine gC ?_ | refine gD ?_ | refine gE ?_ | refine gF rfl ?_ | refine gG rfl ?_ | refine gH ?_ | refine gI ?_ | refine gJ ?_ | refine gK ?_ | refine gL ?_ | refine gM hC rfl ⟨⟩ ?_ | refine gM hC rfl (by exact sd) ?_
  (refine lwp_region hC ⟨[], [], [(1, PWithin_i g 1 1000000)]⟩ (told1 _ (by rw [hP]; exact (calls_cons (PWithin_s _ _ _) calls_nil))) rfl ?_ ?_; rotate_left 1)
  · repeat first | refine lwp_seq fun K hK => ?_ | ((with_reducible refine gA ?_); apply_assumption -exfalso -symm) | refine gB ?_ | refine gC ?_ | refine gD ?_ | refine gE ?_ | refine gF rfl ?_ | refine gG rfl ?_ | refine gH ?_ | refine gI ?_ | refine gJ ?_ | refine gK ?_ | refine gL ?_ | refine gM hC rfl ⟨⟩ ?_ | refine gM hC rfl (by exact sd) ?_
    (refine end_intro (by first | exact .inr rfl | exact .inl rfl) [] rfl ?_)
    exact ⟨rfl, trivial⟩
  · exact sd
def RGrow_i (g : Int) : Inst := { f := 51, hin := [], args := [i64 g], hout := [], ret := i64 (growS g), σ := [] }
theorem RGrow_s (g : Int) : (RGrow_i g).ok Tryz.prog := by
  unfold RGrow_i Inst.ok; dsimp only; refine spec_of_body (tys := tys) 0 Tryz.func51 (by kernel_rfl) rfl tys_ok rfl (Nat.le_of_ble_eq_true rfl) (fun _ _ h => (by cases h)) fun F hP hm hC hrd => ?_; conv => whnf
  repeat first | refine lwp_seq fun K hK => ?_ | ((with_reducible refine gA ?_); apply_assumption -exfalso -symm) | refine gB ?_ | refine gC ?_ | refine gD ?_ | refine gE ?_ | refine gF rfl ?_ | refine gG rfl ?_ | refine gH ?_ | refine gI ?_ | refine gJ ?_ | refine gK ?_ | refine gL ?_ | refine gM hC rfl ⟨⟩ ?_ | refine gM hC rfl (by exact sd) ?_
  (refine lwp_region hC ⟨[], [], [(1, CheckRange_i g 1 1000000)]⟩ (told1 _ (by rw [hP]; exact (calls_cons (CheckRange_s _ _ _) calls_nil))) rfl ?_ ?_; rotate_left 1)
  · repeat first | refine lwp_seq fun K hK => ?_ | ((with_reducible refine gA ?_); apply_assumption -exfalso -symm) | refine gB ?_ | refine gC ?_ | refine gD ?_ | refine gE ?_ | refine gF rfl ?_ | refine gG rfl ?_ | refine gH ?_ | refine gI ?_ | refine gJ ?_ | refine gK ?_ | refine gL ?_ | refine gM hC rfl ⟨⟩ ?_ | refine gM hC rfl (by exact sd) ?_
    (refine end_intro (by first | exact .inr rfl | exact .inl rfl) [] rfl ?_)
    exact ⟨rfl, trivial⟩
  · exact sd
def PBand_i (a b : Int) : Inst := { f := 120, hin := [], args := [.agg [i64 a, i64 b]], hout := [], ret := i64 (bandS a b), σ := [] }
theorem PBand_s (a b : Int) : (PBand_i a b).ok Tryz.prog := by
  unfold PBand_i Inst.ok; dsimp only; refine spec_of_body (tys := tys) 0 Tryz.func120 (by kernel_rfl) rfl tys_ok rfl (Nat.le_of_ble_eq_true rfl) (fun _ _ h => (by cases h)) fun F hP hm hC hrd => ?_; conv => whnf
  repeat first | refine lwp_seq fun K hK => ?_ | ((with_reducible refine gA ?_); apply_assumption -exfalso -symm) | refine gB ?_ | refine gC ?_ | refine gD ?_ | refine gE ?_ | refine gF rfl ?_ | refine gG rfl ?_ | refine gH ?_ | refine gI ?_ | refine gJ ?_ | refine gK ?_ | refine gL ?_ | refine gM hC rfl ⟨⟩ ?_ | refine gM hC rfl (by exact sd) ?_
  (refine lwp_drawn hC (by rw [hP]; exact mixed) ⟨[], [], [(2, PHeat1_i a), (5, PHeat1_i b), (11, PWhen_i (decide (a > b)) 11), (13, PFirst_i [withinS a (-1000) 1000, withinS b (-1000) 1000, whenS (decide (a > b)) 11] [(0, some 1)])]⟩ (told1 _ (by rw [hP]; exact (calls_cons (PHeat1_s _) (calls_cons (PHeat1_s _) (calls_cons (PWhen_s _ _) (calls_cons (PFirst_s _ _ (by simp)) calls_nil)))))) [0, 1, 3, 0, 8, 31, 0, 64, 0, 256, 960, 2047, 4095, 8191, 16383] 11 rfl ?_ ?_; rotate_left 1)
  · repeat first | refine lwp_seq fun K hK => ?_ | ((with_reducible refine gA ?_); apply_assumption -exfalso -symm) | refine gB ?_ | refine gC ?_ | refine gD ?_ | refine gE ?_ | refine gF rfl ?_ | refine gG rfl ?_ | refine gH ?_ | refine gI ?_ | refine gJ ?_ | refine gK ?_ | refine gL ?_ | refine gM hC rfl ⟨⟩ ?_ | refine gM hC rfl (by exact sd) ?_
    (refine end_intro (by first | exact .inr rfl | exact .inl rfl) [] rfl ?_)
    exact ⟨rfl, trivial⟩
  · exact sd
def RBand_i (a b : Int) : Inst := { f := 52, hin := [], args := [.agg [i64 a, i64 b]], hout := [], ret := i64 (bandS a b), σ := [] }
theorem RBand_s (a b : Int) : (RBand_i a b).ok Tryz.prog := by
  unfold RBand_i Inst.ok; dsimp only; refine spec_of_body (tys := tys) 0 Tryz.func52 (by kernel_rfl) rfl tys_ok rfl (Nat.le_of_ble_eq_true rfl) (fun _ _ h => (by cases h)) fun F hP hm hC hrd => ?_; conv => whnf
  repeat first | refine lwp_seq fun K hK => ?_ | ((with_reducible refine gA ?_); apply_assumption -exfalso -symm) | refine gB ?_ | refine gC ?_ | refine gD ?_ | refine gE ?_ | refine gF rfl ?_ | refine gG rfl ?_ | refine gH ?_ | refine gI ?_ | refine gJ ?_ | refine gK ?_ | refine gL ?_ | refine gM hC rfl ⟨⟩ ?_ | refine gM hC rfl (by exact sd) ?_
  (refine lwp_drawn hC (by rw [hP]; exact mixed) ⟨[], [], [(2, CheckRange_i a (-1000) 1000), (5, CheckRange_i b (-1000) 1000), (11, When_i (decide (a > b)) 11), (13, First_i [withinS a (-1000) 1000, withinS b (-1000) 1000, whenS (decide (a > b)) 11] [(0, some 1)])]⟩ (told1 _ (by rw [hP]; exact (calls_cons (CheckRange_s _ _ _) (calls_cons (CheckRange_s _ _ _) (calls_cons (When_s _ _) (calls_cons (First_s _ _ (by simp)) calls_nil)))))) [0, 1, 3, 0, 8, 31, 0, 64, 0, 256, 960, 2047, 4095, 8191, 16383] 11 rfl ?_ ?_; rotate_left 1)
  · repeat first | refine lwp_seq fun K hK => ?_ | ((with_reducible refine gA ?_); apply_assumption -exfalso -symm) | refine gB ?_ | refine gC ?_ | refine gD ?_ | refine gE ?_ | refine gF rfl ?_ | refine gG rfl ?_ | refine gH ?_ | refine gI ?_ | refine gJ ?_ | refine gK ?_ | refine gL ?_ | refine gM hC rfl ⟨⟩ ?_ | refine gM hC rfl (by exact sd) ?_
    (refine end_intro (by first | exact .inr rfl | exact .inl rfl) [] rfl ?_)
    exact ⟨rfl, trivial⟩
  · exact sd
def PHeat_i (L H E g : Int) : Inst := { f := 119, hin := [], args := [.agg [i64 L, i64 H, i64 E], i64 g], hout := [], ret := i64 (heatZ L H E g), σ := [] }
theorem PHeat_s (L H E g : Int) (hb : RailB L H E g) : (PHeat_i L H E g).ok Tryz.prog := by
  obtain ⟨_, _, _, _, h5, h6⟩ := hb
  unfold PHeat_i Inst.ok; dsimp only; refine spec_of_body (tys := tys) 0 Tryz.func119 (by kernel_rfl) rfl tys_ok rfl (Nat.le_of_ble_eq_true rfl) (fun _ _ h => (by cases h)) fun F hP hm hC hrd => ?_; conv => whnf
  repeat first | refine lwp_seq fun K hK => ?_ | ((with_reducible refine gA ?_); apply_assumption -exfalso -symm) | refine gB ?_ | refine gC ?_ | refine gD ?_ | refine gE ?_ | refine gF rfl ?_ | refine gG rfl ?_ | refine gH ?_ | refine gI ?_ | refine gJ ?_ | refine gK ?_ | refine gL ?_ | refine gM hC rfl ⟨⟩ ?_ | refine gM hC rfl (by exact sd) ?_
  (refine end_intro (by first | exact .inr rfl | exact .inl rfl) [] rfl ?_)
  exact ⟨rfl, trivial⟩
def RHeat_i (L H E g : Int) : Inst := { f := 123, hin := [], args := [.agg [i64 L, i64 H, i64 E], i64 g], hout := [], ret := i64 (heatZ L H E g), σ := [] }
theorem RHeat_s (L H E g : Int) (hb : RailB L H E g) : (RHeat_i L H E g).ok Tryz.prog := by
  obtain ⟨_, _, _, _, h5, h6⟩ := hb
  have hc : H * L = L * H := Int.mul_comm _ _
  unfold RHeat_i Inst.ok; dsimp only; refine spec_of_body (tys := tys) 0 Tryz.func123 (by kernel_rfl) rfl tys_ok rfl (Nat.le_of_ble_eq_true rfl) (fun _ _ h => (by cases h)) fun F hP hm hC hrd => ?_; conv => whnf
  repeat first | refine lwp_seq fun K hK => ?_ | ((with_reducible refine gA ?_); apply_assumption -exfalso -symm) | refine gB ?_ | refine gC ?_ | refine gD ?_ | refine gE ?_ | refine gF rfl ?_ | refine gG rfl ?_ | refine gH ?_ | refine gI ?_ | refine gJ ?_ | refine gK ?_ | refine gL ?_ | refine gM hC rfl ⟨⟩ ?_
  (refine lwp_region hC ⟨[], [], []⟩ (told0 _ _) rfl ?_ ?_; rotate_left 1)
  · rw [hc]
    repeat first | refine lwp_seq fun K hK => ?_ | ((with_reducible refine gA ?_); apply_assumption -exfalso -symm) | refine gB ?_ | refine gC ?_ | refine gD ?_ | refine gE ?_ | refine gF rfl ?_ | refine gG rfl ?_ | refine gH ?_ | refine gI ?_ | refine gJ ?_ | refine gK ?_ | refine gL ?_ | refine gM hC rfl ⟨⟩ ?_ | refine gM hC rfl (by exact sd) ?_
    (refine end_intro (by first | exact .inr rfl | exact .inl rfl) [] rfl ?_)
    exact ⟨rfl, trivial⟩
  · rw [hc]
    exact sd

/-! Quotients in lowest terms. -/
def rtN (n d : Int) : Int := n.tdiv (Int.gcd n d)
def rtD (n d : Int) : Int := d.tdiv (Int.gcd n d)
def rtBig (n d : Int) : Bool := decide (rtN n d > 999999999 ∨ rtN n d < -999999999 ∨ rtD n d > 999999999)
def rtS (n d : Int) : (Int × Int) × Int := if rtBig n d = true then ((0, 0), 4) else ((rtN n d, rtD n d), 0)
theorem tdiv_in (n d M : Int) (h : -M ≤ n ∧ n ≤ M) : -M ≤ n.tdiv d ∧ n.tdiv d ≤ M := by
  have := Int.natAbs_tdiv_le_natAbs n d
  omega
def PLow_i (n d : Int) : Inst := { f := 118, hin := [], args := [i64 n, i64 d], hout := [], ret := .tup [.agg [i64 (rtS n d).1.1, i64 (rtS n d).1.2], i64 (rtS n d).2], σ := [] }
theorem PLow_s (n d : Int) (hn : -10000000000000 ≤ n ∧ n ≤ 10000000000000) (hd : 1 ≤ d ∧ d ≤ 10000000000000) : (PLow_i n d).ok Tryz.prog := by
  have hg0 : 0 < Int.gcd n d := Int.gcd_pos_of_ne_zero_right _ (by omega)
  have b1 : -10000000000000 ≤ rtN n d ∧ rtN n d ≤ 10000000000000 := tdiv_in _ _ _ hn
  have b2 : -10000000000000 ≤ rtD n d ∧ rtD n d ≤ 10000000000000 := tdiv_in _ _ _ ⟨by omega, hd.2⟩
  unfold PLow_i Inst.ok; dsimp only; refine spec_of_body (tys := tys) 0 Tryz.func118 (by kernel_rfl) rfl tys_ok rfl (Nat.le_of_ble_eq_true rfl) (fun _ _ h => (by cases h)) fun F hP hm hC hrd => ?_; conv => whnf
  repeat first | refine lwp_seq fun K hK => ?_ | ((with_reducible refine gA ?_); apply_assumption -exfalso -symm) | refine gB ?_ | refine gC ?_ | refine gD ?_ | refine gE ?_ | refine gF rfl ?_ | refine gG rfl ?_ | refine gH ?_ | refine gI ?_ | refine gJ ?_ | refine gK ?_ | refine gL ?_ | refine gM hC rfl ⟨⟩ ?_ | refine gM hC rfl (by exact sd) ?_
  rw [natAbs_max2]
  refine lwp_loop (fun s : Int × Int => ⟨[(6, i64 s.1), (7, i64 s.2), (0, i64 n), (1, i64 d), (4, .ptr 0 0 0 0)], [(0, .blk 82 [i64 0, i64 0])], 1⟩) (fun s => Int.gcd s.1 s.2 = Int.gcd n d ∧ (0 ≤ s.1 ∧ s.1 ≤ 10000000000000) ∧ (0 ≤ s.2 ∧ s.2 ≤ 10000000000000)) (fun s => s.2.natAbs) ((n.natAbs : Int), d) ⟨?_, sub_intro hm [(0, some 0)] rfl ?_⟩ ?_
  · exact ⟨by show Int.gcd (n.natAbs : Int) d = _; unfold Int.gcd; rfl, by show 0 ≤ (n.natAbs : Int) ∧ _; omega, by show 0 ≤ d ∧ _; omega⟩
  · exact sd
  · rintro ⟨p, q⟩ ⟨hg, hp, hq⟩
    dsimp only at hg hp hq ⊢
    repeat first | refine lwp_seq fun K hK => ?_ | ((with_reducible refine gA ?_); apply_assumption -exfalso -symm) | refine gB ?_ | refine gC ?_ | refine gD ?_ | refine gE ?_ | refine gF rfl ?_ | refine gG rfl ?_ | refine gH ?_ | refine gI ?_ | refine gJ ?_ | refine gK ?_ | refine gL ?_ | refine gM hC rfl ⟨⟩ ?_
    (refine lwp_cond hC rfl (by first | exact ⟨⟩ | exact sd) (fun hb => ?_) (fun hb => ?_) <;> (try simp only [decide_eq_true_eq, decide_eq_false_iff_not, Bool.not_eq_true', Bool.not_eq_false', ne_eq, Decidable.not_not] at hb))
    · have htm := tmod_small (p := p) (M := 10000000000000) hb (by omega)
      have htn : 0 ≤ p.tmod q := Int.tmod_nonneg _ hp.1
      repeat first | refine lwp_seq fun K hK => ?_ | ((with_reducible refine gA ?_); apply_assumption -exfalso -symm) | refine gB ?_ | refine gC ?_ | refine gD ?_ | refine gE ?_ | refine gF rfl ?_ | refine gG rfl ?_ | refine gH ?_ | refine gI ?_ | refine gJ ?_ | refine gK ?_ | refine gL ?_ | refine gM hC rfl ⟨⟩ ?_
      (refine lwp_drawn2 hC (by rw [hP]; exact mixed) ⟨[], [], []⟩ (told0 _ _) [0, 0, 0, 6, 3, 31] 4 12 rfl ?_ ?_; rotate_left 1)
      · repeat first | refine lwp_seq fun K hK => ?_ | ((with_reducible refine gA ?_); apply_assumption -exfalso -symm) | refine gB ?_ | refine gC ?_ | refine gD ?_ | refine gE ?_ | refine gF rfl ?_ | refine gG rfl ?_ | refine gH ?_ | refine gI ?_ | refine gJ ?_ | refine gK ?_ | refine gL ?_ | refine gM hC rfl ⟨⟩ ?_
        refine gA ⟨(q, Int.tmod p q), ?_, ?_, sub_intro hm [(0, some 0)] rfl ?_⟩
        · exact ⟨gcd_step hg, hq, by show 0 ≤ Int.tmod p q ∧ Int.tmod p q ≤ _; omega⟩
        · exact htm.2.2
        · exact sd
      · exact sd
    · subst hb
      rw [Int.gcd_zero_right] at hg
      have hpg : p = (Int.gcd n d : Int) := by omega
      have e1 : n.tdiv p = rtN n d := by rw [hpg]; rfl
      have e2 : d.tdiv p = rtD n d := by rw [hpg]; rfl
      repeat first | refine lwp_seq fun K hK => ?_ | ((with_reducible refine gA ?_); apply_assumption -exfalso -symm) | refine gB ?_ | refine gC ?_ | refine gD ?_ | refine gE ?_ | refine gF rfl ?_ | refine gG rfl ?_ | refine gH ?_ | refine gI ?_ | refine gJ ?_ | refine gK ?_ | refine gL ?_ | refine gM hC rfl ⟨⟩ ?_
      (refine lwp_drawn hC (by rw [hP]; exact mixed) ⟨[], [], []⟩ (told0 _ _) [0, 0, 3, 0, 0, 24, 63, 0, 255] 8 rfl ?_ ?_; rotate_left 1)
      · rw [e1, e2]
        repeat first | refine lwp_seq fun K hK => ?_ | ((with_reducible refine gA ?_); apply_assumption -exfalso -symm) | refine gB ?_ | refine gC ?_ | refine gD ?_ | refine gE ?_ | refine gF rfl ?_ | refine gG rfl ?_ | refine gH ?_ | refine gI ?_ | refine gJ ?_ | refine gK ?_ | refine gL ?_ | refine gM hC rfl ⟨⟩ ?_ | refine gM hC rfl (by exact sd) ?_
        have hB : ((if rtD n d > (if -rtN n d > rtN n d then -rtN n d else rtN n d) then rtD n d else (if -rtN n d > rtN n d then -rtN n d else rtN n d)) > 999999999) ↔ rtBig n d = true := by
          unfold rtBig
          rw [decide_eq_true_iff]
          split <;> split <;> omega
        (refine lwp_cond hC rfl (by first | exact ⟨⟩ | exact sd) (fun hb => ?_) (fun hb => ?_) <;> (try simp only [decide_eq_true_eq, decide_eq_false_iff_not, Bool.not_eq_true', Bool.not_eq_false', ne_eq, Decidable.not_not] at hb))
        · have e : rtS n d = ((0, 0), 4) := if_pos (hB.1 hb)
          repeat first | refine lwp_seq fun K hK => ?_ | ((with_reducible refine gA ?_); apply_assumption -exfalso -symm) | refine gB ?_ | refine gC ?_ | refine gD ?_ | refine gE ?_ | refine gF rfl ?_ | refine gG rfl ?_ | refine gH ?_ | refine gI ?_ | refine gJ ?_ | refine gK ?_ | refine gL ?_ | refine gM hC rfl ⟨⟩ ?_ | refine gM hC rfl (by exact sd) ?_
          (refine end_intro (by first | exact .inr rfl | exact .inl rfl) [] rfl ?_)
          rw [e]
          exact ⟨rfl, rfl, rfl, trivial⟩
        · have e : rtS n d = ((rtN n d, rtD n d), 0) := if_neg (fun h => hb (hB.2 h))
          repeat first | refine lwp_seq fun K hK => ?_ | ((with_reducible refine gA ?_); apply_assumption -exfalso -symm) | refine gB ?_ | refine gC ?_ | refine gD ?_ | refine gE ?_ | refine gF rfl ?_ | refine gG rfl ?_ | refine gH ?_ | refine gI ?_ | refine gJ ?_ | refine gK ?_ | refine gL ?_ | refine gM hC rfl ⟨⟩ ?_ | refine gM hC rfl (by exact sd) ?_
          (refine end_intro (by first | exact .inr rfl | exact .inl rfl) [] rfl ?_)
          rw [e]
          exact ⟨rfl, rfl, rfl, trivial⟩
      · rw [e1, e2]
        exact sd
def RLow_i (n d : Int) : Inst := { f := 67, hin := [], args := [i64 n, i64 d], hout := [], ret := .agg [i64 (rtN n d), i64 (rtD n d)], σ := [] }
theorem RLow_s (n d : Int) (hn : -10000000000000 ≤ n ∧ n ≤ 10000000000000) (hd : 1 ≤ d ∧ d ≤ 10000000000000) : (RLow_i n d).ok Tryz.prog := by
  have hg0 : 0 < Int.gcd n d := Int.gcd_pos_of_ne_zero_right _ (by omega)
  have b1 : -10000000000000 ≤ n.tdiv (Int.gcd n d) ∧ n.tdiv (Int.gcd n d) ≤ 10000000000000 := tdiv_in _ _ _ hn
  have b2 : -10000000000000 ≤ d.tdiv (Int.gcd n d) ∧ d.tdiv (Int.gcd n d) ≤ 10000000000000 := tdiv_in _ _ _ ⟨by omega, hd.2⟩
  unfold RLow_i Inst.ok; dsimp only; refine spec_of_body (tys := tys) 0 Tryz.func67 (by kernel_rfl) rfl tys_ok rfl (Nat.le_of_ble_eq_true rfl) (fun _ _ h => (by cases h)) fun F hP hm hC hrd => ?_; conv => whnf
  repeat first | refine lwp_seq fun K hK => ?_ | ((with_reducible refine gA ?_); apply_assumption -exfalso -symm) | refine gB ?_ | refine gC ?_ | refine gD ?_ | refine gE ?_ | refine gF rfl ?_ | refine gG rfl ?_ | refine gH ?_ | refine gI ?_ | refine gJ ?_ | refine gK ?_ | refine gL ?_ | refine gM hC rfl ⟨⟩ ?_
  (refine lwp_region hC ⟨[], [], [(2, RDiv_i n d)]⟩ (told1 _ (by rw [hP]; exact (calls_cons (RDiv_s _ _ hn ⟨by omega, hd.2⟩) calls_nil))) rfl ?_ ?_; rotate_left 1)
  · repeat first | refine lwp_seq fun K hK => ?_ | ((with_reducible refine gA ?_); apply_assumption -exfalso -symm) | refine gB ?_ | refine gC ?_ | refine gD ?_ | refine gE ?_ | refine gF rfl ?_ | refine gG rfl ?_ | refine gH ?_ | refine gI ?_ | refine gJ ?_ | refine gK ?_ | refine gL ?_ | refine gM hC rfl ⟨⟩ ?_
    (refine lwp_cond hC rfl (by first | exact ⟨⟩ | exact sd) (fun hb => ?_) (fun hb => ?_) <;> (try simp only [decide_eq_true_eq, decide_eq_false_iff_not, Bool.not_eq_true', Bool.not_eq_false', ne_eq, Decidable.not_not] at hb))
    · exact absurd hb (by omega)
    · repeat first | refine lwp_seq fun K hK => ?_ | ((with_reducible refine gA ?_); apply_assumption -exfalso -symm) | refine gB ?_ | refine gC ?_ | refine gD ?_ | refine gE ?_ | refine gF rfl ?_ | refine gG rfl ?_ | refine gH ?_ | refine gI ?_ | refine gJ ?_ | refine gK ?_ | refine gL ?_ | refine gM hC rfl ⟨⟩ ?_
      (refine lwp_drawn hC (by rw [hP]; exact mixed) ⟨[], [], []⟩ (told0 _ _) [0, 0, 3, 0, 0, 24, 63, 127] 6 rfl ?_ ?_; rotate_left 1)
      · repeat first | refine lwp_seq fun K hK => ?_ | ((with_reducible refine gA ?_); apply_assumption -exfalso -symm) | refine gB ?_ | refine gC ?_ | refine gD ?_ | refine gE ?_ | refine gF rfl ?_ | refine gG rfl ?_ | refine gH ?_ | refine gI ?_ | refine gJ ?_ | refine gK ?_ | refine gL ?_ | refine gM hC rfl ⟨⟩ ?_
        (refine end_intro (by first | exact .inr rfl | exact .inl rfl) [] rfl ?_)
        exact ⟨rfl, rfl, trivial⟩
      · exact sd
  · exact sd
def RTold_i (n d : Int) : Inst := { f := 122, hin := [], args := [i64 n, i64 d], hout := [], ret := .tup [.agg [i64 (rtS n d).1.1, i64 (rtS n d).1.2], i64 (rtS n d).2], σ := [] }
theorem RTold_s (n d : Int) (hn : -10000000000000 ≤ n ∧ n ≤ 10000000000000) (hd : 1 ≤ d ∧ d ≤ 10000000000000) : (RTold_i n d).ok Tryz.prog := by
  unfold RTold_i Inst.ok; dsimp only; refine spec_of_body (tys := tys) 0 Tryz.func122 (by kernel_rfl) rfl tys_ok rfl (Nat.le_of_ble_eq_true rfl) (fun _ _ h => (by cases h)) fun F hP hm hC hrd => ?_; conv => whnf
  repeat first | refine lwp_seq fun K hK => ?_ | ((with_reducible refine gA ?_); apply_assumption -exfalso -symm) | refine gB ?_ | refine gC ?_ | refine gD ?_ | refine gE ?_ | refine gF rfl ?_ | refine gG rfl ?_ | refine gH ?_ | refine gI ?_ | refine gJ ?_ | refine gK ?_ | refine gL ?_ | refine gM hC rfl ⟨⟩ ?_ | refine gM hC rfl (by exact sd) ?_
  (refine lwp_region hC ⟨[], [], [(2, RLow_i n d)]⟩ (told1 _ (by rw [hP]; exact (calls_cons (RLow_s _ _ hn hd) calls_nil))) rfl ?_ ?_; rotate_left 1)
  · repeat first | refine lwp_seq fun K hK => ?_ | ((with_reducible refine gA ?_); apply_assumption -exfalso -symm) | refine gB ?_ | refine gC ?_ | refine gD ?_ | refine gE ?_ | refine gF rfl ?_ | refine gG rfl ?_ | refine gH ?_ | refine gI ?_ | refine gJ ?_ | refine gK ?_ | refine gL ?_ | refine gM hC rfl ⟨⟩ ?_
    have hB : (bif (bif decide (rtN n d > 999999999) then true else decide (rtN n d < -999999999)) then true else decide (rtD n d > 999999999)) = rtBig n d := by
      unfold rtBig
      by_cases q1 : rtN n d > 999999999 <;> by_cases q2 : rtN n d < -999999999 <;> by_cases q3 : rtD n d > 999999999 <;> simp [q1, q2, q3]
    (refine lwp_region hC ⟨[], [], []⟩ (told0 _ _) rfl ?_ ?_; rotate_left 1)
    · rw [hB]
      repeat first | refine lwp_seq fun K hK => ?_ | ((with_reducible refine gA ?_); apply_assumption -exfalso -symm) | refine gB ?_ | refine gC ?_ | refine gD ?_ | refine gE ?_ | refine gF rfl ?_ | refine gG rfl ?_ | refine gH ?_ | refine gI ?_ | refine gJ ?_ | refine gK ?_ | refine gL ?_ | refine gM hC rfl ⟨⟩ ?_
      (refine lwp_cond hC rfl (by first | exact ⟨⟩ | exact sd) (fun hb => ?_) (fun hb => ?_) <;> (try simp only [decide_eq_true_eq, decide_eq_false_iff_not, Bool.not_eq_true', Bool.not_eq_false', ne_eq, Decidable.not_not] at hb))
      · have e : rtS n d = ((0, 0), 4) := if_pos hb
        repeat first | refine lwp_seq fun K hK => ?_ | ((with_reducible refine gA ?_); apply_assumption -exfalso -symm) | refine gB ?_ | refine gC ?_ | refine gD ?_ | refine gE ?_ | refine gF rfl ?_ | refine gG rfl ?_ | refine gH ?_ | refine gI ?_ | refine gJ ?_ | refine gK ?_ | refine gL ?_ | refine gM hC rfl ⟨⟩ ?_ | refine gM hC rfl (by exact sd) ?_
        (refine end_intro (by first | exact .inr rfl | exact .inl rfl) [] rfl ?_)
        rw [e]
        exact ⟨rfl, rfl, rfl, trivial⟩
      · have e : rtS n d = ((rtN n d, rtD n d), 0) := if_neg (by simpa using hb)
        repeat first | refine lwp_seq fun K hK => ?_ | ((with_reducible refine gA ?_); apply_assumption -exfalso -symm) | refine gB ?_ | refine gC ?_ | refine gD ?_ | refine gE ?_ | refine gF rfl ?_ | refine gG rfl ?_ | refine gH ?_ | refine gI ?_ | refine gJ ?_ | refine gK ?_ | refine gL ?_ | refine gM hC rfl ⟨⟩ ?_ | refine gM hC rfl (by exact sd) ?_
        (refine end_intro (by first | exact .inr rfl | exact .inl rfl) [] rfl ?_)
        rw [e]
        exact ⟨rfl, rfl, rfl, trivial⟩
    · exact sd
  · exact sd

end Go.Proofs.YtccddhoeampdjaaGreatDoor
