/- PlanRails: Neutral, InBand, the program's and the reference's, and the law. -/
import Derived.Test.YtccddhoeampdjaaGreatDoorPe
import Derived.Test.YtccddhoeampdjaaGreatDoorPk
import Derived.Test.YtccddhoeampdjaaGreatDoorPx
set_option linter.unusedVariables false
set_option linter.unusedSimpArgs false
namespace Go.Proofs.YtccddhoeampdjaaGreatDoor
open Go.RowKit Go.Sym

theorem firstS_two (x y z : Int) : firstS [firstS [x, y], z] = firstS [x, y, z] := by
  simp only [firstS]
  by_cases h1 : x = 0 <;> by_cases h2 : y = 0 <;> by_cases h3 : z = 0 <;> simp [h1, h2, h3]
def nRailE (L H E g : Int) : Int := firstS [railS L H E, growS g]
def neuS (L H E g : Int) : (Int × Int) × Int := if nRailE L H E g = 0 then rtS (heatZ L H E g) L else ((0, 0), nRailE L H E g)
theorem nRail_zero {L H E g : Int} (h : nRailE L H E g = 0) : RailB L H E g := by
  have h1 := (firstS_cons _ _).1 h
  exact railB h1.1 ((firstS_cons _ _).1 h1.2).1
def Neu_i (L H E g : Int) : Inst := { f := 47, hin := [], args := [.agg [i64 L, i64 H, i64 E], i64 g], hout := [], ret := .tup [.agg [i64 (neuS L H E g).1.1, i64 (neuS L H E g).1.2], i64 (neuS L H E g).2], σ := [] }
theorem Neu_s (L H E g : Int) : (Neu_i L H E g).ok Tryz.prog := by
  unfold Neu_i Inst.ok; dsimp only; refine spec_of_body (tys := tys) 0 Tryz.func47 (by kernel_rfl) rfl tys_ok rfl (Nat.le_of_ble_eq_true rfl) (fun _ _ h => (by cases h)) fun F hP hm hC hrd => ?_; conv => whnf
  repeat first | refine lwp_seq fun K hK => ?_ | ((with_reducible refine gA ?_); apply_assumption -exfalso -symm) | refine gB ?_ | refine gC ?_ | refine gD ?_ | refine gE ?_ | refine gF rfl ?_ | refine gG rfl ?_ | refine gH ?_ | refine gI ?_ | refine gJ ?_ | refine gK ?_ | refine gL ?_ | refine gM hC rfl ⟨⟩ ?_ | refine gM hC rfl (by exact sd) ?_
  (refine lwp_region hC ⟨[], [], [(1, PRail_i L H E), (3, PGrow_i g), (5, PFirst_i [railS L H E, growS g] [(0, some 2)])]⟩ (told1 _ (by rw [hP]; exact (calls_cons (PRail_s _ _ _) (calls_cons (PGrow_s _) (calls_cons (PFirst_s _ _ (by simp)) calls_nil))))) rfl ?_ ?_; rotate_left 1)
  · repeat first | refine lwp_seq fun K hK => ?_ | ((with_reducible refine gA ?_); apply_assumption -exfalso -symm) | refine gB ?_ | refine gC ?_ | refine gD ?_ | refine gE ?_ | refine gF rfl ?_ | refine gG rfl ?_ | refine gH ?_ | refine gI ?_ | refine gJ ?_ | refine gK ?_ | refine gL ?_ | refine gM hC rfl ⟨⟩ ?_ | refine gM hC rfl (by exact sd) ?_
    (refine lwp_cond hC rfl (by first | exact ⟨⟩ | exact sd) (fun hb => ?_) (fun hb => ?_) <;> (try simp only [decide_eq_true_eq, decide_eq_false_iff_not, Bool.not_eq_true', Bool.not_eq_false', ne_eq, Decidable.not_not] at hb))
    · have e : neuS L H E g = ((0, 0), nRailE L H E g) := if_neg hb
      repeat first | refine lwp_seq fun K hK => ?_ | ((with_reducible refine gA ?_); apply_assumption -exfalso -symm) | refine gB ?_ | refine gC ?_ | refine gD ?_ | refine gE ?_ | refine gF rfl ?_ | refine gG rfl ?_ | refine gH ?_ | refine gI ?_ | refine gJ ?_ | refine gK ?_ | refine gL ?_ | refine gM hC rfl ⟨⟩ ?_ | refine gM hC rfl (by exact sd) ?_
      (refine end_intro (by first | exact .inr rfl | exact .inl rfl) [] rfl ?_)
      rw [e]
      exact ⟨rfl, rfl, rfl, trivial⟩
    · have e : neuS L H E g = rtS (heatZ L H E g) L := if_pos hb
      have hB := nRail_zero hb
      have hh := hB.heat
      have hL := hB.b1
      clear hb
      repeat first | refine lwp_seq fun K hK => ?_ | ((with_reducible refine gA ?_); apply_assumption -exfalso -symm) | refine gB ?_ | refine gC ?_ | refine gD ?_ | refine gE ?_ | refine gF rfl ?_ | refine gG rfl ?_ | refine gH ?_ | refine gI ?_ | refine gJ ?_ | refine gK ?_ | refine gL ?_ | refine gM hC rfl ⟨⟩ ?_
      (refine lwp_drawn hC (by rw [hP]; exact mixed) ⟨[], [], [(2, PHeat_i L H E g), (5, PLow_i (heatZ L H E g) L)]⟩ (told1 _ (by rw [hP]; exact (calls_cons (PHeat_s _ _ _ _ hB) (calls_cons (PLow_s _ _ (by omega) (by omega)) calls_nil)))) [0, 0, 3, 0, 8, 31, 63, 63, 255, 511] 8 rfl ?_ ?_; rotate_left 1)
      · repeat first | refine lwp_seq fun K hK => ?_ | ((with_reducible refine gA ?_); apply_assumption -exfalso -symm) | refine gB ?_ | refine gC ?_ | refine gD ?_ | refine gE ?_ | refine gF rfl ?_ | refine gG rfl ?_ | refine gH ?_ | refine gI ?_ | refine gJ ?_ | refine gK ?_ | refine gL ?_ | refine gM hC rfl ⟨⟩ ?_ | refine gM hC rfl (by exact sd) ?_
        (refine end_intro (by first | exact .inr rfl | exact .inl rfl) [] rfl ?_)
        rw [e]
        exact ⟨rfl, rfl, rfl, trivial⟩
      · exact sd
  · exact sd
def RNeu_i (L H E g : Int) : Inst := { f := 53, hin := [], args := [.agg [i64 L, i64 H, i64 E], i64 g], hout := [], ret := .tup [.agg [i64 (neuS L H E g).1.1, i64 (neuS L H E g).1.2], i64 (neuS L H E g).2], σ := [] }
theorem RNeu_s (L H E g : Int) (hz : nRailE L H E g = 0) : (RNeu_i L H E g).ok Tryz.prog := by
  have e : neuS L H E g = rtS (heatZ L H E g) L := if_pos hz
  have hB := nRail_zero hz
  have hh := hB.heat
  have hL := hB.b1
  clear hz
  unfold RNeu_i Inst.ok; dsimp only; refine spec_of_body (tys := tys) 0 Tryz.func53 (by kernel_rfl) rfl tys_ok rfl (Nat.le_of_ble_eq_true rfl) (fun _ _ h => (by cases h)) fun F hP hm hC hrd => ?_; conv => whnf
  repeat first | refine lwp_seq fun K hK => ?_ | ((with_reducible refine gA ?_); apply_assumption -exfalso -symm) | refine gB ?_ | refine gC ?_ | refine gD ?_ | refine gE ?_ | refine gF rfl ?_ | refine gG rfl ?_ | refine gH ?_ | refine gI ?_ | refine gJ ?_ | refine gK ?_ | refine gL ?_ | refine gM hC rfl ⟨⟩ ?_
  (refine lwp_drawn hC (by rw [hP]; exact mixed) ⟨[], [], [(2, RHeat_i L H E g), (5, RTold_i (heatZ L H E g) L)]⟩ (told1 _ (by rw [hP]; exact (calls_cons (RHeat_s _ _ _ _ hB) (calls_cons (RTold_s _ _ (by omega) (by omega)) calls_nil)))) [0, 0, 3, 0, 8, 31, 63, 63, 255, 511] 8 rfl ?_ ?_; rotate_left 1)
  · repeat first | refine lwp_seq fun K hK => ?_ | ((with_reducible refine gA ?_); apply_assumption -exfalso -symm) | refine gB ?_ | refine gC ?_ | refine gD ?_ | refine gE ?_ | refine gF rfl ?_ | refine gG rfl ?_ | refine gH ?_ | refine gI ?_ | refine gJ ?_ | refine gK ?_ | refine gL ?_ | refine gM hC rfl ⟨⟩ ?_ | refine gM hC rfl (by exact sd) ?_
    (refine end_intro (by first | exact .inr rfl | exact .inl rfl) [] rfl ?_)
    rw [e]
    exact ⟨rfl, rfl, rfl, trivial⟩
  · exact sd
def inBS (L H E g a b : Int) : Bool := bif decide (heatZ L H E g ≥ a * L) then decide (heatZ L H E g ≤ b * L) else false
structure BandB (L a b : Int) : Prop where
  c1 : -1000000000 ≤ a * L ∧ a * L ≤ 1000000000
  c2 : -1000000000 ≤ b * L ∧ b * L ≤ 1000000000
theorem bandB {L a b : Int} (hL : 1 ≤ L ∧ L ≤ 1000000) (hb : bandS a b = 0) : BandB L a b := by
  obtain ⟨h1, h2, _⟩ := bandS_zero hb
  have h5 := mul_in (x := a) (y := L) (A := 1000) (B := 1000000) (by omega) (by omega)
  have h6 := mul_in (x := b) (y := L) (A := 1000) (B := 1000000) (by omega) (by omega)
  exact ⟨by omega, by omega⟩
def PInB_i (L H E g a b : Int) : Inst := { f := 121, hin := [], args := [.agg [i64 L, i64 H, i64 E], i64 g, .agg [i64 a, i64 b]], hout := [], ret := bl (inBS L H E g a b), σ := [] }
theorem PInB_s (L H E g a b : Int) (hB : RailB L H E g) (hC : BandB L a b) : (PInB_i L H E g a b).ok Tryz.prog := by
  obtain ⟨c1, c2⟩ := hC
  unfold PInB_i Inst.ok; dsimp only; refine spec_of_body (tys := tys) 0 Tryz.func121 (by kernel_rfl) rfl tys_ok rfl (Nat.le_of_ble_eq_true rfl) (fun _ _ h => (by cases h)) fun F hP hm hC hrd => ?_; conv => whnf
  repeat first | refine lwp_seq fun K hK => ?_ | ((with_reducible refine gA ?_); apply_assumption -exfalso -symm) | refine gB ?_ | refine gC ?_ | refine gD ?_ | refine gE ?_ | refine gF rfl ?_ | refine gG rfl ?_ | refine gH ?_ | refine gI ?_ | refine gJ ?_ | refine gK ?_ | refine gL ?_ | refine gM hC rfl ⟨⟩ ?_ | refine gM hC rfl (by exact sd) ?_
  (refine lwp_region hC ⟨[], [], [(2, PHeat_i L H E g)]⟩ (told1 _ (by rw [hP]; exact (calls_cons (PHeat_s _ _ _ _ hB) calls_nil))) rfl ?_ ?_; rotate_left 1)
  · repeat first | refine lwp_seq fun K hK => ?_ | ((with_reducible refine gA ?_); apply_assumption -exfalso -symm) | refine gB ?_ | refine gC ?_ | refine gD ?_ | refine gE ?_ | refine gF rfl ?_ | refine gG rfl ?_ | refine gH ?_ | refine gI ?_ | refine gJ ?_ | refine gK ?_ | refine gL ?_ | refine gM hC rfl ⟨⟩ ?_
    (refine lwp_region hC ⟨[], [], []⟩ (told0 _ _) rfl ?_ ?_; rotate_left 1)
    · repeat first | refine lwp_seq fun K hK => ?_ | ((with_reducible refine gA ?_); apply_assumption -exfalso -symm) | refine gB ?_ | refine gC ?_ | refine gD ?_ | refine gE ?_ | refine gF rfl ?_ | refine gG rfl ?_ | refine gH ?_ | refine gI ?_ | refine gJ ?_ | refine gK ?_ | refine gL ?_ | refine gM hC rfl ⟨⟩ ?_ | refine gM hC rfl (by exact sd) ?_
      (refine end_intro (by first | exact .inr rfl | exact .inl rfl) [] rfl ?_)
      exact ⟨rfl, trivial⟩
    · exact sd
  · exact sd
def RInB_i (L H E g a b : Int) : Inst := { f := 54, hin := [], args := [.agg [i64 L, i64 H, i64 E], i64 g, .agg [i64 a, i64 b]], hout := [], ret := bl (inBS L H E g a b), σ := [] }
set_option maxRecDepth 20000 in
theorem RInB_s (L H E g a b : Int) (hB : RailB L H E g) (hC : BandB L a b) : (RInB_i L H E g a b).ok Tryz.prog := by
  obtain ⟨c1, c2⟩ := hC
  by_cases hge : heatZ L H E g ≥ a * L
  · have e : inBS L H E g a b = decide (heatZ L H E g ≤ b * L) := by unfold inBS; rw [decide_eq_true hge]; rfl
    unfold RInB_i Inst.ok; dsimp only; refine spec_of_body (tys := tys) 0 Tryz.func54 (by kernel_rfl) rfl tys_ok rfl (Nat.le_of_ble_eq_true rfl) (fun _ _ h => (by cases h)) fun F hP hm hC hrd => ?_; conv => whnf
    repeat first | refine lwp_seq fun K hK => ?_ | ((with_reducible refine gA ?_); apply_assumption -exfalso -symm) | refine gB ?_ | refine gC ?_ | refine gD ?_ | refine gE ?_ | refine gF rfl ?_ | refine gG rfl ?_ | refine gH ?_ | refine gI ?_ | refine gJ ?_ | refine gK ?_ | refine gL ?_ | refine gM hC rfl ⟨⟩ ?_ | refine gM hC rfl (by exact sd) ?_
    (refine lwp_drawn2 hC (by rw [hP]; exact mixed) ⟨[(9, { b := some true })], [], [(2, RHeat_i L H E g), (12, RHeat_i L H E g)]⟩ (told1 _ (by rw [hP]; exact (calls_cons (RHeat_s _ _ _ _ hB) (calls_cons (RHeat_s _ _ _ _ hB) calls_nil)))) [0, 0, 3, 0, 8, 0, 32, 120, 255, 511, 1023, 1023, 4095, 1023, 9215, 1023, 33791, 123903, 262143, 524287, 1048575] 21 0 rfl ?_ ?_; rotate_left 1)
    · repeat first | refine lwp_seq fun K hK => ?_ | ((with_reducible refine gA ?_); apply_assumption -exfalso -symm) | refine gB ?_ | refine gC ?_ | refine gD ?_ | refine gE ?_ | refine gF rfl ?_ | refine gG rfl ?_ | refine gH ?_ | refine gI ?_ | refine gJ ?_ | refine gK ?_ | refine gL ?_ | refine gM hC rfl ⟨⟩ ?_ | refine gM hC rfl (by exact sd) ?_
      (refine end_intro (by first | exact .inr rfl | exact .inl rfl) [] rfl ?_)
      rw [e]
      exact ⟨rfl, trivial⟩
    · exact sd
  · have e : inBS L H E g a b = false := by unfold inBS; rw [decide_eq_false hge]; rfl
    unfold RInB_i Inst.ok; dsimp only; refine spec_of_body (tys := tys) 0 Tryz.func54 (by kernel_rfl) rfl tys_ok rfl (Nat.le_of_ble_eq_true rfl) (fun _ _ h => (by cases h)) fun F hP hm hC hrd => ?_; conv => whnf
    repeat first | refine lwp_seq fun K hK => ?_ | ((with_reducible refine gA ?_); apply_assumption -exfalso -symm) | refine gB ?_ | refine gC ?_ | refine gD ?_ | refine gE ?_ | refine gF rfl ?_ | refine gG rfl ?_ | refine gH ?_ | refine gI ?_ | refine gJ ?_ | refine gK ?_ | refine gL ?_ | refine gM hC rfl ⟨⟩ ?_ | refine gM hC rfl (by exact sd) ?_
    (refine lwp_drawn2 hC (by rw [hP]; exact mixed) ⟨[(9, { b := some false }), (10, { g := some false }), (11, { g := some false }), (12, { g := some false }), (13, { g := some false }), (14, { g := some false }), (15, { g := some false }), (16, { g := some false }), (17, { g := some false }), (18, { g := some false })], [], [(2, RHeat_i L H E g)]⟩ (told1 _ (by rw [hP]; exact (calls_cons (RHeat_s _ _ _ _ hB) calls_nil))) [0, 0, 3, 0, 8, 0, 32, 120, 255, 511, 1023, 1023, 4095, 1023, 9215, 1023, 33791, 123903, 262143, 524287, 1048575] 21 0 rfl ?_ ?_; rotate_left 1)
    · repeat first | refine lwp_seq fun K hK => ?_ | ((with_reducible refine gA ?_); apply_assumption -exfalso -symm) | refine gB ?_ | refine gC ?_ | refine gD ?_ | refine gE ?_ | refine gF rfl ?_ | refine gG rfl ?_ | refine gH ?_ | refine gI ?_ | refine gJ ?_ | refine gK ?_ | refine gL ?_ | refine gM hC rfl ⟨⟩ ?_ | refine gM hC rfl (by exact sd) ?_
      (refine end_intro (by first | exact .inr rfl | exact .inl rfl) [] rfl ?_)
      rw [e]
      exact ⟨rfl, trivial⟩
    · exact sd
def bandE (L H E g a b : Int) : Int := firstS [railS L H E, growS g, bandS a b]
def inbS (L H E g a b : Int) : Bool × Int := if bandE L H E g a b = 0 then (inBS L H E g a b, 0) else (false, bandE L H E g a b)
theorem band_zero {L H E g a b : Int} (h : bandE L H E g a b = 0) : RailB L H E g ∧ BandB L a b := by
  have h1 := (firstS_cons _ _).1 h
  have h2 := (firstS_cons _ _).1 h1.2
  have hB := railB h1.1 h2.1
  exact ⟨hB, bandB hB.b1 ((firstS_cons _ _).1 h2.2).1⟩
def InB_i (L H E g a b : Int) : Inst := { f := 48, hin := [], args := [.agg [i64 L, i64 H, i64 E], i64 g, .agg [i64 a, i64 b]], hout := [], ret := .tup [bl (inbS L H E g a b).1, i64 (inbS L H E g a b).2], σ := [] }
theorem InB_s (L H E g a b : Int) : (InB_i L H E g a b).ok Tryz.prog := by
  unfold InB_i Inst.ok; dsimp only; refine spec_of_body (tys := tys) 0 Tryz.func48 (by kernel_rfl) rfl tys_ok rfl (Nat.le_of_ble_eq_true rfl) (fun _ _ h => (by cases h)) fun F hP hm hC hrd => ?_; conv => whnf
  repeat first | refine lwp_seq fun K hK => ?_ | ((with_reducible refine gA ?_); apply_assumption -exfalso -symm) | refine gB ?_ | refine gC ?_ | refine gD ?_ | refine gE ?_ | refine gF rfl ?_ | refine gG rfl ?_ | refine gH ?_ | refine gI ?_ | refine gJ ?_ | refine gK ?_ | refine gL ?_ | refine gM hC rfl ⟨⟩ ?_ | refine gM hC rfl (by exact sd) ?_
  (refine lwp_drawn hC (by rw [hP]; exact mixed) ⟨[], [], [(1, PRail_i L H E), (3, PGrow_i g), (5, PBand_i a b), (7, PFirst_i [railS L H E, growS g, bandS a b] [(0, some 2)])]⟩ (told1 _ (by rw [hP]; exact (calls_cons (PRail_s _ _ _) (calls_cons (PGrow_s _) (calls_cons (PBand_s _ _) (calls_cons (PFirst_s _ _ (by simp)) calls_nil)))))) [0, 1, 0, 7, 0, 31, 63, 127, 255] 5 rfl ?_ ?_; rotate_left 1)
  · repeat first | refine lwp_seq fun K hK => ?_ | ((with_reducible refine gA ?_); apply_assumption -exfalso -symm) | refine gB ?_ | refine gC ?_ | refine gD ?_ | refine gE ?_ | refine gF rfl ?_ | refine gG rfl ?_ | refine gH ?_ | refine gI ?_ | refine gJ ?_ | refine gK ?_ | refine gL ?_ | refine gM hC rfl ⟨⟩ ?_ | refine gM hC rfl (by exact sd) ?_
    (refine lwp_cond hC rfl (by first | exact ⟨⟩ | exact sd) (fun hb => ?_) (fun hb => ?_) <;> (try simp only [decide_eq_true_eq, decide_eq_false_iff_not, Bool.not_eq_true', Bool.not_eq_false', ne_eq, Decidable.not_not] at hb))
    · have e : inbS L H E g a b = (false, bandE L H E g a b) := if_neg hb
      repeat first | refine lwp_seq fun K hK => ?_ | ((with_reducible refine gA ?_); apply_assumption -exfalso -symm) | refine gB ?_ | refine gC ?_ | refine gD ?_ | refine gE ?_ | refine gF rfl ?_ | refine gG rfl ?_ | refine gH ?_ | refine gI ?_ | refine gJ ?_ | refine gK ?_ | refine gL ?_ | refine gM hC rfl ⟨⟩ ?_ | refine gM hC rfl (by exact sd) ?_
      (refine end_intro (by first | exact .inr rfl | exact .inl rfl) [] rfl ?_)
      rw [e]
      exact ⟨rfl, rfl, trivial⟩
    · have e : inbS L H E g a b = (inBS L H E g a b, 0) := if_pos hb
      have hB := band_zero hb
      clear hb
      repeat first | refine lwp_seq fun K hK => ?_ | ((with_reducible refine gA ?_); apply_assumption -exfalso -symm) | refine gB ?_ | refine gC ?_ | refine gD ?_ | refine gE ?_ | refine gF rfl ?_ | refine gG rfl ?_ | refine gH ?_ | refine gI ?_ | refine gJ ?_ | refine gK ?_ | refine gL ?_ | refine gM hC rfl ⟨⟩ ?_
      (refine lwp_region hC ⟨[], [], [(3, PInB_i L H E g a b)]⟩ (told1 _ (by rw [hP]; exact (calls_cons (PInB_s _ _ _ _ _ _ hB.1 hB.2) calls_nil))) rfl ?_ ?_; rotate_left 1)
      · repeat first | refine lwp_seq fun K hK => ?_ | ((with_reducible refine gA ?_); apply_assumption -exfalso -symm) | refine gB ?_ | refine gC ?_ | refine gD ?_ | refine gE ?_ | refine gF rfl ?_ | refine gG rfl ?_ | refine gH ?_ | refine gI ?_ | refine gJ ?_ | refine gK ?_ | refine gL ?_ | refine gM hC rfl ⟨⟩ ?_ | refine gM hC rfl (by exact sd) ?_
        (refine end_intro (by first | exact .inr rfl | exact .inl rfl) [] rfl ?_)
        rw [e]
        exact ⟨rfl, rfl, trivial⟩
      · exact sd
  · exact sd

def LawRa_i (L H E g a b : Int) : Inst := { f := 8, gl := lawG, hin := [(0, pwC), (1, kdC)], args := [.agg [i64 L, i64 H, i64 E], i64 g, .agg [i64 a, i64 b]], hout := [], ret := bl true, σ := [] }
set_option maxRecDepth 20000 in
set_option maxHeartbeats 4000000 in
theorem LawRa_s (L H E g a b : Int) : (LawRa_i L H E g a b).ok Tryz.prog := by
  have e2 : firstS [nRailE L H E g, bandS a b] = bandE L H E g a b := firstS_two _ _ _
  unfold LawRa_i Inst.ok; dsimp only; refine spec_of_body (tys := tys) 2 Tryz.func8 (by kernel_rfl) rfl tys_ok rfl (Nat.le_of_ble_eq_true rfl) (fun g i h => by simp only [List.mem_cons, List.not_mem_nil, or_false, Prod.mk.injEq] at h; omega) fun F hP hm hC hrd => ?_; conv => whnf
  repeat first | refine lwp_seq fun K hK => ?_ | ((with_reducible refine gA ?_); apply_assumption -exfalso -symm) | refine gB ?_ | refine gC ?_ | refine gD ?_ | refine gE ?_ | refine gF rfl ?_ | refine gG rfl ?_ | refine gH ?_ | refine gI ?_ | refine gJ ?_ | refine gK ?_ | refine gL ?_ | refine gM hC rfl ⟨⟩ ?_ | refine gM hC rfl (by exact sd) ?_
  (refine lwp_region hC ⟨[], [], [(2, Neu_i L H E g)]⟩ (told1 _ (by rw [hP]; exact (calls_cons (Neu_s _ _ _ _) calls_nil))) rfl ?_ ?_; rotate_left 1)
  · repeat first | refine lwp_seq fun K hK => ?_ | ((with_reducible refine gA ?_); apply_assumption -exfalso -symm) | refine gB ?_ | refine gC ?_ | refine gD ?_ | refine gE ?_ | refine gF rfl ?_ | refine gG rfl ?_ | refine gH ?_ | refine gI ?_ | refine gJ ?_ | refine gK ?_ | refine gL ?_ | refine gM hC rfl ⟨⟩ ?_ | refine gM hC rfl (by exact sd) ?_
    (refine lwp_region hC ⟨[], [], [(3, InB_i L H E g a b)]⟩ (told1 _ (by rw [hP]; exact (calls_cons (InB_s _ _ _ _ _ _) calls_nil))) rfl ?_ ?_; rotate_left 1)
    · repeat first | refine lwp_seq fun K hK => ?_ | ((with_reducible refine gA ?_); apply_assumption -exfalso -symm) | refine gB ?_ | refine gC ?_ | refine gD ?_ | refine gE ?_ | refine gF rfl ?_ | refine gG rfl ?_ | refine gH ?_ | refine gI ?_ | refine gJ ?_ | refine gK ?_ | refine gL ?_ | refine gM hC rfl ⟨⟩ ?_ | refine gM hC rfl (by exact sd) ?_
      (refine lwp_region hC ⟨[], [], [(1, RRail_i L H E), (3, RGrow_i g), (5, First_i [railS L H E, growS g] [(0, some 6)])]⟩ (told1 _ (by rw [hP]; exact (calls_cons (RRail_s _ _ _) (calls_cons (RGrow_s _) (calls_cons (First_s _ _ (by simp)) calls_nil))))) rfl ?_ ?_; rotate_left 1)
      · repeat first | refine lwp_seq fun K hK => ?_ | ((with_reducible refine gA ?_); apply_assumption -exfalso -symm) | refine gB ?_ | refine gC ?_ | refine gD ?_ | refine gE ?_ | refine gF rfl ?_ | refine gG rfl ?_ | refine gH ?_ | refine gI ?_ | refine gJ ?_ | refine gK ?_ | refine gL ?_ | refine gM hC rfl ⟨⟩ ?_ | refine gM hC rfl (by exact sd) ?_
        (refine lwp_region hC ⟨[], [], [(2, RBand_i a b), (4, First_i [nRailE L H E g, bandS a b] [(0, some 7)])]⟩ (told1 _ (by rw [hP]; exact (calls_cons (RBand_s _ _) (calls_cons (First_s _ _ (by simp)) calls_nil)))) rfl ?_ ?_; rotate_left 1)
        · rw [e2]
          repeat first | refine lwp_seq fun K hK => ?_ | ((with_reducible refine gA ?_); apply_assumption -exfalso -symm) | refine gB ?_ | refine gC ?_ | refine gD ?_ | refine gE ?_ | refine gF rfl ?_ | refine gG rfl ?_ | refine gH ?_ | refine gI ?_ | refine gJ ?_ | refine gK ?_ | refine gL ?_ | refine gM hC rfl ⟨⟩ ?_ | refine gM hC rfl (by exact sd) ?_
          (refine lwp_cond hC rfl (by first | exact ⟨⟩ | exact sd) (fun hb => ?_) (fun hb => ?_) <;> (try simp only [decide_eq_true_eq, decide_eq_false_iff_not, Bool.not_eq_true', Bool.not_eq_false', ne_eq, Decidable.not_not] at hb))
          · have hz : nRailE L H E g = 0 := hb
            have eZ : firstS [railS L H E, growS g] = 0 := hb
            clear hb
            repeat first | refine lwp_seq fun K hK => ?_ | ((with_reducible refine gA ?_); apply_assumption -exfalso -symm) | refine gB ?_ | refine gC ?_ | refine gD ?_ | refine gE ?_ | refine gF rfl ?_ | refine gG rfl ?_ | refine gH ?_ | refine gI ?_ | refine gJ ?_ | refine gK ?_ | refine gL ?_ | refine gM hC rfl ⟨⟩ ?_ | refine gM hC rfl (by exact sd) ?_
            (refine lwp_region hC ⟨[], [], [(2, RNeu_i L H E g)]⟩ (told1 _ (by rw [hP]; exact (calls_cons (RNeu_s _ _ _ _ hz) calls_nil))) rfl ?_ ?_; rotate_left 1)
            · repeat first | refine lwp_seq fun K hK => ?_ | ((with_reducible refine gA ?_); apply_assumption -exfalso -symm) | refine gB ?_ | refine gC ?_ | refine gD ?_ | refine gE ?_ | refine gF rfl ?_ | refine gG rfl ?_ | refine gH ?_ | refine gI ?_ | refine gJ ?_ | refine gK ?_ | refine gL ?_ | refine gM hC rfl ⟨⟩ ?_ | refine gM hC rfl (by exact sd) ?_
              (refine lwp_cond hC rfl (by first | exact ⟨⟩ | exact sd) (fun hb => ?_) (fun hb => ?_) <;> (try simp only [decide_eq_true_eq, decide_eq_false_iff_not, Bool.not_eq_true', Bool.not_eq_false', ne_eq, Decidable.not_not] at hb))
              · have hB := band_zero hb
                have eI : inbS L H E g a b = (inBS L H E g a b, 0) := if_pos hb
                repeat first | refine lwp_seq fun K hK => ?_ | ((with_reducible refine gA ?_); apply_assumption -exfalso -symm) | refine gB ?_ | refine gC ?_ | refine gD ?_ | refine gE ?_ | refine gF rfl ?_ | refine gG rfl ?_ | refine gH ?_ | refine gI ?_ | refine gJ ?_ | refine gK ?_ | refine gL ?_ | refine gM hC rfl ⟨⟩ ?_ | refine gM hC rfl (by exact sd) ?_
                (refine lwp_region hC ⟨[], [], [(3, RInB_i L H E g a b)]⟩ (told1 _ (by rw [hP]; exact (calls_cons (RInB_s _ _ _ _ _ _ hB.1 hB.2) calls_nil))) rfl ?_ ?_; rotate_left 1)
                · repeat first | refine lwp_seq fun K hK => ?_ | ((with_reducible refine gA ?_); apply_assumption -exfalso -symm) | refine gB ?_ | refine gC ?_ | refine gD ?_ | refine gE ?_ | refine gF rfl ?_ | refine gG rfl ?_ | refine gH ?_ | refine gI ?_ | refine gJ ?_ | refine gK ?_ | refine gL ?_ | refine gM hC rfl ⟨⟩ ?_ | refine gM hC rfl (by exact sd) ?_
                  (refine lwp_drawn2 hC (by rw [hP]; exact mixed) ⟨[(5, { b := some true }), (10, { b := some true }), (15, { b := some true }), (20, { b := some true }), (25, { b := some true })], [(8, custRat)], [(1, PRail_i L H E), (3, RRail_i L H E), (26, Awake_i)]⟩ ⟨(fun p hp => by rcases List.mem_cons.1 hp with rfl | hp; rw [hP]; exact custRat_ok; cases hp), (by rw [hP]; exact (calls_cons (PRail_s _ _ _) (calls_cons (RRail_s _ _ _) (calls_cons (Awake_s) calls_nil))))⟩ [0, 1, 0, 7, 15, 31, 63, 63, 255, 511, 1023, 2047, 2047, 8191, 16383, 32767, 65535, 65535, 262143, 524287, 1048575, 2097151, 2097151, 8388607, 16777215, 33554431, 67108863, 134217727, 268435455] 29 0 rfl ?_ ?_; rotate_left 1)
                  · repeat first | refine lwp_seq fun K hK => ?_ | ((with_reducible refine gA ?_); apply_assumption -exfalso -symm) | refine gB ?_ | refine gC ?_ | refine gD ?_ | refine gE ?_ | refine gF rfl ?_ | refine gG rfl ?_ | refine gH ?_ | refine gI ?_ | refine gJ ?_ | refine gK ?_ | refine gL ?_ | refine gM hC rfl ⟨⟩ ?_ | refine gM hC rfl (by exact sd) ?_
                    (refine end_intro (by first | exact .inr rfl | exact .inl rfl) [] rfl ?_)
                    exact ⟨rfl, trivial⟩
                  · simp [AllL, All, eI, hb]
                · exact sd
              · have eI : inbS L H E g a b = (false, bandE L H E g a b) := if_neg hb
                repeat first | refine lwp_seq fun K hK => ?_ | ((with_reducible refine gA ?_); apply_assumption -exfalso -symm) | refine gB ?_ | refine gC ?_ | refine gD ?_ | refine gE ?_ | refine gF rfl ?_ | refine gG rfl ?_ | refine gH ?_ | refine gI ?_ | refine gJ ?_ | refine gK ?_ | refine gL ?_ | refine gM hC rfl ⟨⟩ ?_ | refine gM hC rfl (by exact sd) ?_
                (refine lwp_drawn2 hC (by rw [hP]; exact mixed) ⟨[(5, { b := some true }), (10, { b := some true }), (15, { b := some true }), (20, { b := some true }), (25, { b := some true })], [(8, custRat)], [(1, PRail_i L H E), (3, RRail_i L H E), (26, Awake_i)]⟩ ⟨(fun p hp => by rcases List.mem_cons.1 hp with rfl | hp; rw [hP]; exact custRat_ok; cases hp), (by rw [hP]; exact (calls_cons (PRail_s _ _ _) (calls_cons (RRail_s _ _ _) (calls_cons (Awake_s) calls_nil))))⟩ [0, 1, 0, 7, 15, 31, 63, 63, 255, 511, 1023, 2047, 2047, 8191, 16383, 32767, 65535, 65535, 262143, 524287, 1048575, 2097151, 2097151, 8388607, 16777215, 33554431, 67108863, 134217727, 268435455] 29 0 rfl ?_ ?_; rotate_left 1)
                · repeat first | refine lwp_seq fun K hK => ?_ | ((with_reducible refine gA ?_); apply_assumption -exfalso -symm) | refine gB ?_ | refine gC ?_ | refine gD ?_ | refine gE ?_ | refine gF rfl ?_ | refine gG rfl ?_ | refine gH ?_ | refine gI ?_ | refine gJ ?_ | refine gK ?_ | refine gL ?_ | refine gM hC rfl ⟨⟩ ?_ | refine gM hC rfl (by exact sd) ?_
                  (refine end_intro (by first | exact .inr rfl | exact .inl rfl) [] rfl ?_)
                  exact ⟨rfl, trivial⟩
                · simp [AllL, All, eI]
            · exact sd
          · have eN : neuS L H E g = ((0, 0), nRailE L H E g) := if_neg hb
            have e3 : bandE L H E g a b = nRailE L H E g := by
              rw [← e2]
              simp only [firstS, if_neg (show ¬ nRailE L H E g = 0 from hb)]
            have e4 : ¬ bandE L H E g a b = 0 := by rw [e3]; exact hb
            have eI : inbS L H E g a b = (false, bandE L H E g a b) := if_neg e4
            repeat first | refine lwp_seq fun K hK => ?_ | ((with_reducible refine gA ?_); apply_assumption -exfalso -symm) | refine gB ?_ | refine gC ?_ | refine gD ?_ | refine gE ?_ | refine gF rfl ?_ | refine gG rfl ?_ | refine gH ?_ | refine gI ?_ | refine gJ ?_ | refine gK ?_ | refine gL ?_ | refine gM hC rfl ⟨⟩ ?_ | refine gM hC rfl (by exact sd) ?_
            (refine lwp_cond hC rfl (by first | exact ⟨⟩ | exact sd) (fun hb => ?_) (fun hb => ?_) <;> (try simp only [decide_eq_true_eq, decide_eq_false_iff_not, Bool.not_eq_true', Bool.not_eq_false', ne_eq, Decidable.not_not] at hb))
            · exact absurd (by assumption) e4
            · repeat first | refine lwp_seq fun K hK => ?_ | ((with_reducible refine gA ?_); apply_assumption -exfalso -symm) | refine gB ?_ | refine gC ?_ | refine gD ?_ | refine gE ?_ | refine gF rfl ?_ | refine gG rfl ?_ | refine gH ?_ | refine gI ?_ | refine gJ ?_ | refine gK ?_ | refine gL ?_ | refine gM hC rfl ⟨⟩ ?_ | refine gM hC rfl (by exact sd) ?_
              (refine lwp_drawn2 hC (by rw [hP]; exact mixed) ⟨[(5, { b := some true }), (10, { b := some true }), (15, { b := some true }), (20, { b := some true }), (25, { b := some true })], [(8, custRat)], [(1, PRail_i L H E), (3, RRail_i L H E), (26, Awake_i)]⟩ ⟨(fun p hp => by rcases List.mem_cons.1 hp with rfl | hp; rw [hP]; exact custRat_ok; cases hp), (by rw [hP]; exact (calls_cons (PRail_s _ _ _) (calls_cons (RRail_s _ _ _) (calls_cons (Awake_s) calls_nil))))⟩ [0, 1, 0, 7, 15, 31, 63, 63, 255, 511, 1023, 2047, 2047, 8191, 16383, 32767, 65535, 65535, 262143, 524287, 1048575, 2097151, 2097151, 8388607, 16777215, 33554431, 67108863, 134217727, 268435455] 29 0 rfl ?_ ?_; rotate_left 1)
              · repeat first | refine lwp_seq fun K hK => ?_ | ((with_reducible refine gA ?_); apply_assumption -exfalso -symm) | refine gB ?_ | refine gC ?_ | refine gD ?_ | refine gE ?_ | refine gF rfl ?_ | refine gG rfl ?_ | refine gH ?_ | refine gI ?_ | refine gJ ?_ | refine gK ?_ | refine gL ?_ | refine gM hC rfl ⟨⟩ ?_ | refine gM hC rfl (by exact sd) ?_
                (refine end_intro (by first | exact .inr rfl | exact .inl rfl) [] rfl ?_)
                exact ⟨rfl, trivial⟩
              · simp [AllL, All, eI, eN, e3, nRailE]
        · exact sd
      · exact sd
    · exact sd
  · exact sd

end Go.Proofs.YtccddhoeampdjaaGreatDoor
