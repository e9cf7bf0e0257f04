/- PlanSmooth: the law as a run. -/
import Derived.Test.YtccddhoeampdjaaGreatDoorUj
import Derived.Test.YtccddhoeampdjaaGreatDoorSX
import Derived.Test.YtccddhoeampdjaaGreatDoorPx
set_option linter.unusedVariables false
set_option linter.unusedSimpArgs false
namespace Go.Proofs.YtccddhoeampdjaaGreatDoor
open Go.RowKit Go.Sym

def LA (A : Nat → Int) (k : Nat) : List Int := (List.range k).map fun q => (A q).tmod 21
theorem LA_len (A : Nat → Int) (k : Nat) : (LA A k).length = k := by simp [LA]
theorem LA_step (A : Nat → Int) (k : Nat) : LA A (k + 1) = LA A k ++ [(A k).tmod 21] := by simp [LA, List.range_succ]
theorem LA_in (A : Nat → Int) (k : Nat) : ∀ x ∈ LA A k, -1000 ≤ x ∧ x ≤ 1000 := by
  intro x hx
  obtain ⟨q, _, rfl⟩ := List.mem_map.1 hx
  have h : (Int.tmod (A q) 21).natAbs < 21 := by rw [Int.natAbs_tmod]; exact Nat.mod_lt _ (by decide)
  omega
theorem levE_zero {l : List Int} (h0 : 0 < l.length) (h1 : l.length ≤ 24) (h : ∀ x ∈ l, -1000 ≤ x ∧ x ≤ 1000) : levE l = 0 := by
  have e1 : whenS (decide ((l.length : Int) = 0)) 12 = 0 := (whenS_zero (by decide)).2 (decide_eq_false (by omega))
  have e2 : whenS (decide ((l.length : Int) > 24)) 5 = 0 := (whenS_zero (by decide)).2 (decide_eq_false (by omega))
  unfold levE
  rw [e1, e2, rangeL_all h]
  rfl
theorem desE_zero {a b : List Int} {m r : Int} (ha : levE a = 0) (hb : levE b = 0) (hl : a.length = b.length) (hm : 0 ≤ m ∧ m ≤ 12) (hr : 1 ≤ r ∧ r ≤ 12) : desE a b m r = 0 := by
  have e1 : whenS (decide ((a.length : Int) ≠ b.length)) 2 = 0 := (whenS_zero (by decide)).2 (decide_eq_false (by omega))
  have e2 : withinS m 0 12 = 0 := withinS_zero.2 hm
  have e3 : withinS r 1 12 = 0 := withinS_zero.2 hr
  unfold desE rulE
  rw [ha, hb, e1, e2, e3]
  rfl
theorem feasD_const {most : Nat} {ramp E : Int} (h0 : 0 ≤ E) (h1 : E ≤ most) (h2 : E ≤ ramp) : ∀ (cs : List (Int × Int)) (b : Int), (b = 0 ∨ b = E) → feasD most ramp cs b (List.replicate cs.length E)
  | [], b, hb => by show b ≤ ramp; omega
  | c :: r, b, hb => by
    refine ⟨⟨h0, h1⟩, ?_, feasD_const h0 h1 h2 r E (.inr rfl)⟩
    unfold nearB
    simp only [Bool.and_eq_true, decide_eq_true_eq]
    omega
theorem zip_self : ∀ l : List Int, l.zip l = l.map fun x => (x, x)
  | [] => rfl
  | x :: l => by simp [zip_self l]
/-- What the law asks of lists of levels and targets. -/
structure Smo (a b L : List Int) (M : Nat) (r : Int) (P P3 : Int × List Int) (x c1 c2 : Int) (q1 q2 : List Int) : Prop where
  d0 : bestD M r (a.zip b) 0 = some P
  k0 : Keeps a b P.2 M r
  k1 : Keeps a b L M r
  low : P.1 ≤ x
  ste : c1 ≤ P.1
  hig : c2 ≤ P.1
  len : P.2.length = a.length
  z3 : P3.1 = 0
  l3 : P3.2.length = a.length
  a3 : ∀ k, P3.2.getD k 0 = 0
  rng : ∀ x ∈ P.2, 0 ≤ x ∧ x ≤ (M : Int)
theorem smo {a b : List Int} {M : Nat} {r r' m' E : Int} (ha : levE a = 0) (hb : levE b = 0) (hl : a.length = b.length) (hm : M ≤ 12) (hr : 1 ≤ r ∧ r ≤ 12) (hr' : r ≤ r' ∧ r' ≤ 12) (hm' : (M : Int) ≤ m' ∧ m' ≤ 12) (hE : 0 ≤ E ∧ E ≤ M ∧ E ≤ r) :
    Smo a b (List.replicate a.length E) M r (dsP a b M r) (dsP a a M r) (costL (a.zip b) (List.replicate a.length E)) (dsP a b M r').1 (dsP a b m' r).1 (dsP a b M r').2 (dsP a b m' r).2 := by
  have hz := desE_zero ha hb hl (m := (M : Int)) (by omega) hr
  have hz1 := desE_zero ha hb hl (m := (M : Int)) (r := r') (by omega) (by omega)
  have hz2 := desE_zero ha hb hl (m := m') (r := r) (by omega) hr
  have hz3 := desE_zero ha ha rfl (m := (M : Int)) (r := r) (by omega) hr
  have d0 := dsP_is hz
  have d1 := dsP_is hz1
  have d2 := dsP_is hz2
  have d3 := dsP_is hz3
  rw [Int.toNat_natCast] at d0 d1 d3
  have hzl : (a.zip b).length = a.length := by rw [List.length_zip]; omega
  have f0 := bestD_feas d0
  have hc := feasD_const (most := M) (ramp := r) hE.1 hE.2.1 hE.2.2 (a.zip b) 0 (.inl rfl)
  rw [hzl] at hc
  obtain ⟨p, p1, p2⟩ := bestD_low hc
  rw [d0] at p1
  cases p1
  obtain ⟨q, s1, s2⟩ := bestD_more (Nat.le_refl M) hr'.1 d0
  rw [d1] at s1
  cases s1
  obtain ⟨q, t1, t2⟩ := bestD_more (most' := m'.toNat) (by omega) (Int.le_refl r) d0
  rw [d2] at t1
  cases t1
  rw [zip_self] at d3
  obtain ⟨v1, v2⟩ := bestD_level M (by omega) a d3
  have hv := (feasD_all (bestD_feas d3).1).1
  rw [List.length_map] at hv
  obtain ⟨w1, w2⟩ := feasD_all f0.1
  refine ⟨d0, ⟨hz, by rw [Int.toNat_natCast]; exact f0.1⟩, ⟨hz, by rw [Int.toNat_natCast]; exact hc⟩, p2, s2, t2, by omega, v1, hv, fun k => ?_, w2⟩
  rw [List.getD_eq_getElem?_getD]
  cases e : (dsP a a M r).2[k]? with
  | none => rfl
  | some x => exact v2 x (List.mem_of_getElem? e)
theorem dsg_ok {a b : List Int} {m r : Int} (σ : Ren) (hz : desE a b m r = 0) : ({ f := 40, hin := twoIn a b, args := [.sl 0 a.length, .sl 1 b.length, .agg [i64 m, i64 r]], hout := [(2, .row 3 (dsP a b m r).2.length 1 (.ints .i64 (dsP a b m r).2))], ret := .tup [.sl 2 (dsP a b m r).2.length, i64 (dsP a b m r).1, i64 0], σ := σ } : Inst).ok Tryz.prog := by
  obtain ⟨hL, hT, _⟩ := desE_ok hz
  have h := Dsg_s a b m r σ (by have := hL.1; omega) (by have := hT.1; omega)
  unfold Dsg_i at h
  have e1 : dsL a b m r = (dsP a b m r).2 := if_pos hz
  have e2 : dsC a b m r = (dsP a b m r).1 := if_pos hz
  rw [e1, e2, hz] at h
  exact h
theorem rem8 {n : Int} (h : 0 ≤ n ∧ n ≤ 255) : ∃ C : Nat, 1 + Int.tmod n 8 = C ∧ 1 ≤ C ∧ C ≤ 8 := by
  rw [Int.tmod_eq_emod_of_nonneg h.1]
  exact ⟨(1 + n % 8).toNat, by omega, by omega, by omega⟩
theorem rem13 {n : Int} (h : 0 ≤ n ∧ n ≤ 255) : ∃ C : Nat, Int.tmod n 13 = C ∧ C ≤ 12 := by
  rw [Int.tmod_eq_emod_of_nonneg h.1]
  exact ⟨(n % 13).toNat, by omega, by omega⟩
theorem rem12 {n : Int} (h : 0 ≤ n ∧ n ≤ 255) : ∃ r : Int, 1 + Int.tmod n 12 = r ∧ 1 ≤ r ∧ r ≤ 12 := by
  rw [Int.tmod_eq_emod_of_nonneg h.1]
  exact ⟨1 + n % 12, by omega, by omega, by omega⟩

def LawSm_i (A B : Nat → Int) (n0 n1 n2 n3 : Int) : Inst := { f := 12, gl := lawG, hin := [(0, pwC), (1, kdC)], args := [.agg [.lit (.int .i8 (A 0)), .lit (.int .i8 (A 1)), .lit (.int .i8 (A 2)), .lit (.int .i8 (A 3)), .lit (.int .i8 (A 4)), .lit (.int .i8 (A 5)), .lit (.int .i8 (A 6)), .lit (.int .i8 (A 7))], .agg [.lit (.int .i8 (B 0)), .lit (.int .i8 (B 1)), .lit (.int .i8 (B 2)), .lit (.int .i8 (B 3)), .lit (.int .i8 (B 4)), .lit (.int .i8 (B 5)), .lit (.int .i8 (B 6)), .lit (.int .i8 (B 7))], .agg [.lit (.int .u8 n0), .lit (.int .u8 n1), .lit (.int .u8 n2), .lit (.int .u8 n3)]], hout := [], ret := bl true, σ := [] }
set_option maxRecDepth 20000 in
set_option maxHeartbeats 8000000 in
theorem LawSm_s (A B : Nat → Int) (n0 n1 n2 n3 : Int) (hA : ∀ k, -128 ≤ A k ∧ A k ≤ 127) (hB : ∀ k, -128 ≤ B k ∧ B k ≤ 127) (h0 : 0 ≤ n0 ∧ n0 ≤ 255) (h1 : 0 ≤ n1 ∧ n1 ≤ 255) (h2 : 0 ≤ n2 ∧ n2 ≤ 255) (h3 : 0 ≤ n3 ∧ n3 ≤ 255) : (LawSm_i A B n0 n1 n2 n3).ok Tryz.prog := by
  obtain ⟨C, hCe, hC1, hC8⟩ := rem8 h0
  obtain ⟨M, hMe, hM12⟩ := rem13 h1
  obtain ⟨r, hre, hr1, hr12⟩ := rem12 h2
  obtain ⟨e0, hee, he12⟩ := rem13 h3
  have HA := Lib.hid hA
  have HB := Lib.hid hB
  clear hA hB
  obtain ⟨E, hEe⟩ : ∃ E : Int, E = (if r < if (M : Int) < e0 then (M : Int) else e0 then r else if (M : Int) < e0 then (M : Int) else e0) := ⟨_, rfl⟩
  have hEin : 0 ≤ E ∧ E ≤ M ∧ E ≤ r := by
    rw [hEe]
    split <;> split <;> omega
  unfold LawSm_i Inst.ok; dsimp only; refine spec_of_body (tys := tys) 2 Tryz.func12 (by kernel_rfl) rfl tys_ok rfl (Nat.le_of_ble_eq_true rfl) (fun g i h => by simp only [List.mem_cons, List.not_mem_nil, or_false, Prod.mk.injEq] at h; omega) fun F hP hm hC hrd => ?_; conv => whnf
  repeat first | refine lwp_seq fun K hK => ?_ | (with_reducible refine gA ?_; apply_assumption -exfalso -symm) | refine Stp.h ?_ | refine gF rfl ?_ | refine gG rfl ?_ | refine gM hC rfl sd ?_
  rw [hCe, hMe, hre]
  clear hCe hMe hre
  refine lwp_loop (fun k : Nat => ⟨[(49, i64 (k : Int)), (48, i64 (C : Int)), (7, i64 (C : Int)), (8, .ptr 5 0 0 0), (3, .ptr 2 0 0 0), (4, .ptr 3 0 0 0), (5, .ptr 4 0 0 0), (9, .sl 6 (LA A k).length), (10, .sl 7 (LA B k).length), (11, .sl 8 (List.replicate k E).length)], [(6, .row 3 (LA A k).length 1 (.ints .i64 (LA A k))), (7, .row 3 (LA B k).length 1 (.ints .i64 (LA B k))), (8, .row 3 (List.replicate k E).length 1 (.ints .i64 (List.replicate k E))), (2, .blk 136 [.lit (.int .i8 (A 0)), .lit (.int .i8 (A 1)), .lit (.int .i8 (A 2)), .lit (.int .i8 (A 3)), .lit (.int .i8 (A 4)), .lit (.int .i8 (A 5)), .lit (.int .i8 (A 6)), .lit (.int .i8 (A 7))]), (3, .blk 136 [.lit (.int .i8 (B 0)), .lit (.int .i8 (B 1)), .lit (.int .i8 (B 2)), .lit (.int .i8 (B 3)), .lit (.int .i8 (B 4)), .lit (.int .i8 (B 5)), .lit (.int .i8 (B 6)), .lit (.int .i8 (B 7))]), (4, .blk 124 [.lit (.int .u8 n0), .lit (.int .u8 n1), .lit (.int .u8 n2), .lit (.int .u8 n3)]), (5, .blk 75 [i64 (M : Int), i64 r]), (0, pwC), (1, kdC)], 9⟩) (fun k => k ≤ C) (fun k => C - k) 0 ⟨?_, sub_intro hm [(0, some 0), (1, some 1), (2, some 2), (3, some 3), (4, some 4), (5, some 5), (6, none), (7, none), (8, none)] rfl ?_⟩ ?_
  · exact Nat.zero_le _
  · have g1 : LA A 0 = [] := rfl
    have g2 : LA B 0 = [] := rfl
    have g3 : List.replicate 0 E = [] := rfl
    rw [g1, g2, g3]
    exact sd
  · rintro k hk
    repeat first | refine lwp_seq fun K hK => ?_ | (with_reducible refine gA ?_; apply_assumption -exfalso -symm) | refine Stp.h ?_ | refine gF rfl ?_ | refine gG rfl ?_ | refine gM hC rfl sd ?_
    refine lwp_condS hC rfl sd ?_ ?_ <;> intro hb
    · have hk2 : k < C := by omega
      clear hb
      have a1 := LA_step A k
      have a2 := LA_step B k
      have a3 : List.replicate (k + 1) E = List.replicate k E ++ [E] := List.replicate_succ'
      have l1 := LA_len A k
      have l2 := LA_len B k
      obtain ⟨j, hj⟩ : ∃ j, j = k + 1 := ⟨_, rfl⟩
      rw [← hj] at a1 a2 a3
      have S1 := Lib.hid a1
      have S2 := Lib.hid a2
      have S3 := Lib.hid a3
      clear a1 a2 a3
      obtain ⟨ka, hka⟩ : ∃ x, LA A k = x := ⟨_, rfl⟩
      obtain ⟨kb, hkb⟩ : ∃ x, LA B k = x := ⟨_, rfl⟩
      rw [hka] at l1 S1
      rw [hkb] at l2 S2
      rw [hka, hkb]
      clear hka hkb
      have hAk := HA.out k
      have hBk := HB.out k
      have hc : k = 0 ∨ k = 1 ∨ k = 2 ∨ k = 3 ∨ k = 4 ∨ k = 5 ∨ k = 6 ∨ k = 7 := by omega
      rcases hc with rfl | rfl | rfl | rfl | rfl | rfl | rfl | rfl
      all_goals
        repeat first | refine lwp_seq fun K hK => ?_ | (with_reducible refine gA ?_; apply_assumption -exfalso -symm) | refine Stp.h ?_ | refine gF rfl ?_ | refine gG rfl ?_ | refine gM hC rfl ⟨⟩ ?_
        (refine X.lwp_drawnX hC (by rw [hP]; exact mixed) ⟨[], [], []⟩ (told0 _ _) [(7, 6), (15, 7), (27, 8)] [0, 0, 2, 6, 14, 30, 62, 127, 0, 0, 512, 1536, 3584, 7680, 15872, 32767, 0, 0, 131072, 393216, 917504, 0, 2097152, 0, 8388608, 33423360, 66977792, 134217727, 268435455, 536870911, 1073741823] 28 rfl ?_ ?_; rotate_left 1)
        · rw [hee, ← hEe]
          repeat first | refine lwp_seq fun K hK => ?_ | (with_reducible refine gA ?_; apply_assumption -exfalso -symm) | refine Stp.h ?_ | refine gF rfl ?_ | refine gG rfl ?_ | refine gM hC rfl sd ?_
          refine gA ⟨j, ?_, ?_, sub_intro hm [(0, some 0), (1, some 1), (2, some 2), (3, some 3), (4, some 4), (5, some 5), (6, some 10), (7, some 12), (8, some 14)] rfl ?_⟩
          · omega
          · omega
          · rw [S1.out, S2.out, S3.out]
            exact sd
        · exact sd
    · obtain rfl : k = C := by omega
      clear hb hk
      have hla := LA_len A k
      have hlb := LA_len B k
      have hle : (List.replicate k E).length = k := List.length_replicate
      have za := levE_zero (l := LA A k) (by omega) (by omega) (LA_in A k)
      have zb := levE_zero (l := LA B k) (by omega) (by omega) (LA_in B k)
      obtain ⟨a, hae⟩ : ∃ a, LA A k = a := ⟨_, rfl⟩
      obtain ⟨b, hbe⟩ : ∃ b, LA B k = b := ⟨_, rfl⟩
      obtain ⟨L, hLe⟩ : ∃ L, List.replicate k E = L := ⟨_, rfl⟩
      rw [hae] at hla za
      rw [hbe] at hlb zb
      rw [hLe] at hle
      rw [hae, hbe, hLe]
      clear hae hbe
      obtain ⟨r', hr'⟩ : ∃ r' : Int, r' = (if (r : Int) + 1 < 12 then r + 1 else 12) := ⟨_, rfl⟩
      obtain ⟨m', hm'⟩ : ∃ m' : Int, m' = (if (M : Int) + 1 < 12 then (M : Int) + 1 else 12) := ⟨_, rfl⟩
      have hrin : r ≤ r' ∧ r' ≤ 12 := by rw [hr']; split <;> omega
      have hmin : (M : Int) ≤ m' ∧ m' ≤ 12 := by rw [hm']; split <;> omega
      have hsm := smo za zb (by omega) hM12 ⟨hr1, hr12⟩ hrin hmin hEin
      rw [hla, hLe] at hsm
      have hz0 := desE_zero za zb (by omega) (m := (M : Int)) (r := r) (by omega) ⟨hr1, hr12⟩
      have hz1 := desE_zero za zb (by omega) (m := (M : Int)) (r := r') (by omega) (by omega)
      have hz2 := desE_zero za zb (by omega) (m := m') (r := r) (by omega) ⟨hr1, hr12⟩
      have hz3 := desE_zero za za rfl (m := (M : Int)) (r := r) (by omega) ⟨hr1, hr12⟩
      have hD0 := dsg_ok [(0, some 9), (1, some 10)] hz0
      have hD1 := dsg_ok [(0, some 18), (1, some 19)] hz1
      have hD2 := dsg_ok [(0, some 21), (1, some 22)] hz2
      have hD3 := dsg_ok [(0, some 24), (1, some 25)] hz3
      rw [hsm.z3] at hD3
      clear hz0 hz1 hz2 hz3
      obtain ⟨P, hPe⟩ : ∃ P, dsP a b M r = P := ⟨_, rfl⟩
      obtain ⟨P3, hP3e⟩ : ∃ P, dsP a a M r = P := ⟨_, rfl⟩
      obtain ⟨P1, hP1e⟩ : ∃ P, dsP a b M r' = P := ⟨_, rfl⟩
      obtain ⟨P2, hP2e⟩ : ∃ P, dsP a b m' r = P := ⟨_, rfl⟩
      rw [hPe, hP3e, hP1e, hP2e] at hsm
      rw [hPe] at hD0
      rw [hP1e] at hD1
      rw [hP2e] at hD2
      rw [hP3e] at hD3
      clear hPe hP3e hP1e hP2e
      obtain ⟨x, hxe⟩ : ∃ x, costL (a.zip b) L = x := ⟨_, rfl⟩
      rw [hxe] at hsm
      have hfe := bestD_feas hsm.d0
      have hC0 := CLf_s a b P.2 M r [(0, some 12), (1, some 13), (2, some 14)] hsm.k0
      have hC1 := CLf_s a b L M r [(0, some 15), (1, some 16), (2, some 17)] hsm.k1
      unfold CLf_i at hC0 hC1
      rw [hfe.2] at hC0
      rw [hxe] at hC1
      have hpl : P.2.length = k := by have := hsm.len; omega
      have hp3l : P3.2.length = k := by have := hsm.l3; omega
      have hLf := Lfd_s a P.2 [(0, some 27), (1, some 28)] za (fun x hx => by have := hsm.rng x hx; omega) (by omega)
      unfold Lfd_i at hLf
      obtain ⟨lf, hlfe⟩ : ∃ lf, mixL a P.2 a.length = lf := ⟨_, rfl⟩
      have hlfa : ∀ q, q < k → lf.getD q 0 = a.getD q 0 + P.2.getD q 0 := fun q hq => by
        rw [← hlfe, mixL_at _ _ (by omega), if_pos (by omega)]
      have hlfl : lf.length = k := by rw [← hlfe, mixL_len]; exact hla
      rw [hlfe] at hLf
      clear hlfe
      have hcn := costN_costL (lv := a) (tg := b) (L := P.2) (by omega) (by omega)
      rw [hfe.2, hpl] at hcn
      have hlfO := lfOk_of (L := P.2) fun x hx => by have := hsm.rng x hx; omega
      have hci := costN_in (lvOk_of za) (lvOk_of zb) hlfO
      have hms := fun q => miss_in ((lvOk_of za).2 q) ((lvOk_of zb).2 q) (hlfO q)
      have hio := fun q => And.intro ((lvOk_of za).2 q) (And.intro ((lvOk_of zb).2 q) (hlfO q))
      have hrg : ∀ q, 0 ≤ P.2.getD q 0 ∧ P.2.getD q 0 ≤ M := fun q => by
        rw [List.getD_eq_getElem?_getD]
        cases e : P.2[q]? with
        | none => exact ⟨Int.le_refl 0, show (0 : Int) ≤ M by omega⟩
        | some x => exact hsm.rng x (List.mem_of_getElem? e)
      have g1 := hsm.low
      have g2 := hsm.ste
      have g3 := hsm.hig
      have HD0 := Lib.hid hD0
      have HD1 := Lib.hid hD1
      have HD2 := Lib.hid hD2
      have HD3 := Lib.hid hD3
      have HC0 := Lib.hid hC0
      have HC1 := Lib.hid hC1
      have HLF := Lib.hid hLf
      have HLA := Lib.hid hlfa
      have HCI := Lib.hid hci
      have HCN := Lib.hid hcn
      have HMS := Lib.hid hms
      have HIO := Lib.hid hio
      have HRG := Lib.hid hrg
      have HA3 := Lib.hid hsm.a3
      clear hD0 hD1 hD2 hD3 hC0 hC1 hLf hlfa hci hcn hms hio hrg hlfO hfe hsm za zb hxe hLe hEe hEin HA HB hee he12
      repeat first | refine lwp_seq fun K hK => ?_ | (with_reducible refine gA ?_; apply_assumption -exfalso -symm) | refine Stp.h ?_ | refine gF rfl ?_ | refine gG rfl ?_ | refine gM hC rfl sd ?_
      (refine lwp_drawn hC (by rw [hP]; exact mixed) ⟨[], [], [(1, LInts_i a [(0, some 6)]), (3, LInts_i b [(0, some 7)]), (5, { f := 40, hin := twoIn a b, args := [.sl 0 a.length, .sl 1 b.length, .agg [i64 (M : Int), i64 r]], hout := [(2, .row 3 P.2.length 1 (.ints .i64 P.2))], ret := .tup [.sl 2 P.2.length, i64 P.1, i64 0], σ := [(0, some 9), (1, some 10)] })]⟩ (told1 _ (by rw [hP]; exact (calls_cons (LInts_s _ _ (by omega)) (calls_cons (LInts_s _ _ (by omega)) (calls_cons (HD0.out) calls_nil))))) [0, 1, 0, 7, 0, 31, 63, 127, 127, 127, 255, 1535, 4095] 12 rfl ?_ ?_; rotate_left 1)
      · repeat first | refine lwp_seq fun K hK => ?_ | (with_reducible refine gA ?_; apply_assumption -exfalso -symm) | refine Stp.h ?_ | refine gF rfl ?_ | refine gG rfl ?_
        (refine lwp_region hC ⟨[(2, { b := some false })], [], []⟩ (told0 _ _) rfl ?_ ?_; rotate_left 1)
        · repeat first | refine lwp_seq fun K hK => ?_ | (with_reducible refine gA ?_; apply_assumption -exfalso -symm) | refine Stp.h ?_ | refine gF rfl ?_ | refine gG rfl ?_ | refine gM hC rfl sd ?_
          refine lwp_condS hC rfl sd ?_ ?_ <;> intro hb
          · simp at hb
            omega
          · clear hb
            repeat first | refine lwp_seq fun K hK => ?_ | (with_reducible refine gA ?_; apply_assumption -exfalso -symm) | refine Stp.h ?_ | refine gF rfl ?_ | refine gG rfl ?_ | refine gM hC rfl sd ?_
            (refine lwp_drawn hC (by rw [hP]; exact mixed) ⟨[], [], [(1, LInts_i a [(0, some 6)]), (3, LInts_i b [(0, some 7)]), (5, LInts_i P.2 [(0, some 11)]), (7, { f := 69, hin := threeIn a b P.2, args := [.sl 0 a.length, .sl 1 b.length, .sl 2 P.2.length, .agg [i64 (M : Int), i64 r]], hout := [], ret := .tup [i64 P.1, i64 0], σ := [(0, some 12), (1, some 13), (2, some 14)] })]⟩ (told1 _ (by rw [hP]; exact (calls_cons (LInts_s _ _ (by omega)) (calls_cons (LInts_s _ _ (by omega)) (calls_cons (LInts_s _ _ (by omega)) (calls_cons (HC0.out) calls_nil)))))) [0, 1, 0, 7, 0, 31, 0, 127, 255, 511, 511, 1023, 4095] 12 rfl ?_ ?_; rotate_left 1)
            · repeat first | refine lwp_seq fun K hK => ?_ | (with_reducible refine gA ?_; apply_assumption -exfalso -symm) | refine Stp.h ?_ | refine gF rfl ?_ | refine gG rfl ?_ | refine gM hC rfl sd ?_
              (refine lwp_drawn hC (by rw [hP]; exact mixed) ⟨[], [], [(1, LInts_i a [(0, some 6)]), (3, LInts_i b [(0, some 7)]), (5, LInts_i L [(0, some 8)]), (7, { f := 69, hin := threeIn a b L, args := [.sl 0 a.length, .sl 1 b.length, .sl 2 L.length, .agg [i64 (M : Int), i64 r]], hout := [], ret := .tup [i64 x, i64 0], σ := [(0, some 15), (1, some 16), (2, some 17)] })]⟩ (told1 _ (by rw [hP]; exact (calls_cons (LInts_s _ _ (by omega)) (calls_cons (LInts_s _ _ (by omega)) (calls_cons (LInts_s _ _ (by omega)) (calls_cons (HC1.out) calls_nil)))))) [0, 1, 0, 7, 0, 31, 0, 127, 255, 511, 511, 1023, 4095] 12 rfl ?_ ?_; rotate_left 1)
              · repeat first | refine lwp_seq fun K hK => ?_ | (with_reducible refine gA ?_; apply_assumption -exfalso -symm) | refine Stp.h ?_ | refine gF rfl ?_ | refine gG rfl ?_ | refine gM hC rfl sd ?_
                (refine lwp_drawn2 hC (by rw [hP]; exact mixed) ⟨[], [], [(1, LInts_i a [(0, some 6)]), (3, LInts_i b [(0, some 7)]), (11, { f := 40, hin := twoIn a b, args := [.sl 0 a.length, .sl 1 b.length, .agg [i64 (M : Int), i64 r']], hout := [(2, .row 3 P1.2.length 1 (.ints .i64 P1.2))], ret := .tup [.sl 2 P1.2.length, i64 P1.1, i64 0], σ := [(0, some 18), (1, some 19)] })]⟩ (told1 _ (by rw [hP]; exact (calls_cons (LInts_s _ _ (by omega)) (calls_cons (LInts_s _ _ (by omega)) (calls_cons (HD1.out) calls_nil))))) [0, 1, 0, 7, 0, 16, 0, 64, 192, 448, 1008, 2047, 4095, 8191, 8191, 8191, 16383, 98303, 262143] 19 0 rfl ?_ ?_; rotate_left 1)
                · repeat first | refine lwp_seq fun K hK => ?_ | (with_reducible refine gA ?_; apply_assumption -exfalso -symm) | refine Stp.h ?_ | refine gF rfl ?_ | refine gG rfl ?_ | refine gM hC rfl sd ?_
                  (refine lwp_drawn2 hC (by rw [hP]; exact mixed) ⟨[], [], [(1, LInts_i a [(0, some 6)]), (3, LInts_i b [(0, some 7)]), (11, { f := 40, hin := twoIn a b, args := [.sl 0 a.length, .sl 1 b.length, .agg [i64 m', i64 r]], hout := [(2, .row 3 P2.2.length 1 (.ints .i64 P2.2))], ret := .tup [.sl 2 P2.2.length, i64 P2.1, i64 0], σ := [(0, some 21), (1, some 22)] })]⟩ (told1 _ (by rw [hP]; exact (calls_cons (LInts_s _ _ (by omega)) (calls_cons (LInts_s _ _ (by omega)) (calls_cons (HD2.out) calls_nil))))) [0, 1, 0, 7, 0, 16, 48, 112, 0, 256, 1008, 2047, 4095, 8191, 8191, 8191, 16383, 98303, 262143] 19 0 rfl ?_ ?_; rotate_left 1)
                  · repeat first | refine lwp_seq fun K hK => ?_ | (with_reducible refine gA ?_; apply_assumption -exfalso -symm) | refine Stp.h ?_ | refine gF rfl ?_ | refine gG rfl ?_
                    (refine lwp_region hC ⟨[(8, { b := some false }), (13, { b := some false }), (18, { b := some false }), (23, { b := some false })], [], []⟩ (told0 _ _) rfl ?_ ?_; rotate_left 1)
                    · repeat first | refine lwp_seq fun K hK => ?_ | (with_reducible refine gA ?_; apply_assumption -exfalso -symm) | refine Stp.h ?_ | refine gF rfl ?_ | refine gG rfl ?_ | refine gM hC rfl sd ?_
                      refine lwp_condS hC rfl sd ?_ ?_ <;> intro hb
                      · simp at hb
                        omega
                      · clear hb g1 g2 g3
                        repeat first | refine lwp_seq fun K hK => ?_ | (with_reducible refine gA ?_; apply_assumption -exfalso -symm) | refine Stp.h ?_ | refine gF rfl ?_ | refine gG rfl ?_ | refine gM hC rfl sd ?_
                        (refine lwp_drawn hC (by rw [hP]; exact mixed) ⟨[], [], [(1, LInts_i a [(0, some 6)]), (3, LInts_i a [(0, some 6)]), (5, { f := 40, hin := twoIn a a, args := [.sl 0 a.length, .sl 1 a.length, .agg [i64 (M : Int), i64 r]], hout := [(2, .row 3 P3.2.length 1 (.ints .i64 P3.2))], ret := .tup [.sl 2 P3.2.length, i64 0, i64 0], σ := [(0, some 24), (1, some 25)] })]⟩ (told1 _ (by rw [hP]; exact (calls_cons (LInts_s _ _ (by omega)) (calls_cons (LInts_s _ _ (by omega)) (calls_cons (HD3.out) calls_nil))))) [0, 1, 0, 7, 0, 31, 63, 127, 127, 127, 255, 1535, 4095] 12 rfl ?_ ?_; rotate_left 1)
                        · repeat first | refine lwp_seq fun K hK => ?_ | (with_reducible refine gA ?_; apply_assumption -exfalso -symm) | refine Stp.h ?_ | refine gF rfl ?_ | refine gG rfl ?_ | refine gM hC rfl sd ?_
                          (refine lwp_region hC ⟨[], [], [(1, LInts_i a [(0, some 6)]), (3, LInts_i P.2 [(0, some 11)]), (4, { f := 70, hin := [(0, .ro a.length 1 (.ints .i64 a)), (1, .ro P.2.length 1 (.ints .i64 P.2))], args := [.sl 0 a.length, .sl 1 P.2.length], hout := [(2, .row 3 a.length 1 (.ints .i64 lf))], ret := .tup [.sl 2 a.length, i64 0], σ := [(0, some 27), (1, some 28)] })]⟩ (told1 _ (by rw [hP]; exact (calls_cons (LInts_s _ _ (by omega)) (calls_cons (LInts_s _ _ (by omega)) (calls_cons (HLF.out) calls_nil))))) rfl ?_ ?_; rotate_left 1)
                          · repeat first | refine lwp_seq fun K hK => ?_ | (with_reducible refine gA ?_; apply_assumption -exfalso -symm) | refine Stp.h ?_ | refine gF rfl ?_ | refine gG rfl ?_
                            (refine lwp_region hC ⟨[(4, { b := some false }), (8, { b := some false }), (14, { b := some false })], [], []⟩ (told0 _ _) rfl ?_ ?_; rotate_left 1)
                            · repeat first | refine lwp_seq fun K hK => ?_ | (with_reducible refine gA ?_; apply_assumption -exfalso -symm) | refine Stp.h ?_ | refine gF rfl ?_ | refine gG rfl ?_ | refine gM hC rfl sd ?_
                              refine lwp_condS hC rfl sd ?_ ?_ <;> intro hb
                              · simp at hb
                                omega
                              · clear hb
                                repeat first | refine lwp_seq fun K hK => ?_ | (with_reducible refine gA ?_; apply_assumption -exfalso -symm) | refine Stp.h ?_ | refine gF rfl ?_ | refine gG rfl ?_ | refine gM hC rfl sd ?_
                                refine lwp_loop (fun q : Nat => ⟨[(220, i64 (q : Int)), (219, i64 (k : Int)), (31, i64 (costN a b P.2 q)), (26, .sl 26 P3.2.length), (13, .sl 11 P.2.length), (29, .sl 29 a.length), (10, .sl 7 b.length), (8, .ptr 5 0 0 0), (14, i64 P.1)], [(26, .row 3 P3.2.length 1 (.ints .i64 P3.2)), (11, .row 3 P.2.length 1 (.ints .i64 P.2)), (29, .row 3 a.length 1 (.ints .i64 lf)), (7, .row 3 b.length 1 (.ints .i64 b)), (5, .blk 75 [i64 (M : Int), i64 r]), (0, pwC), (1, kdC)], 30⟩) (fun q => q ≤ k) (fun q => k - q) 0 ⟨?_, sub_intro hm [(0, some 0), (1, some 1), (5, some 5), (7, some 7), (11, some 11), (26, some 26), (29, some 29)] rfl ?_⟩ ?_
                                · exact Nat.zero_le _
                                · have e : costN a b P.2 0 = 0 := rfl
                                  exact sd
                                · rintro q hq
                                  have hqq : ((q : Int)).toNat = q := Int.toNat_natCast q
                                  have hci := HCI.out q
                                  repeat first | refine lwp_seq fun K hK => ?_ | (with_reducible refine gA ?_; apply_assumption -exfalso -symm) | refine Stp.h ?_ | refine gF rfl ?_ | refine gG rfl ?_ | refine gM hC rfl sd ?_
                                  refine lwp_condS hC rfl sd ?_ ?_ <;> intro hb
                                  · have hq2 : q < k := by omega
                                    clear hb
                                    have h3 := HA3.out q
                                    have hrg := HRG.out q
                                    repeat first | refine lwp_seq fun K hK => ?_ | (with_reducible refine gA ?_; apply_assumption -exfalso -symm) | refine Stp.h ?_ | refine gF rfl ?_ | refine gG rfl ?_ | refine gM hC rfl ⟨⟩ ?_
                                    (refine lwp_drawn2 hC (by rw [hP]; exact mixed) ⟨[(5, { b := some false }), (12, { b := some false })], [], []⟩ (told0 _ _) [0, 0, 3, 7, 15, 31, 63, 63, 255, 511, 1023, 2047, 4095, 8191, 8191, 32767, 65535, 8191, 139263, 524287, 1048575] 21 0 rfl ?_ ?_; rotate_left 1)
                                    · repeat first | refine lwp_seq fun K hK => ?_ | (with_reducible refine gA ?_; apply_assumption -exfalso -symm) | refine Stp.h ?_ | refine gF rfl ?_ | refine gG rfl ?_ | refine gM hC rfl sd ?_
                                      refine lwp_condS hC rfl sd ?_ ?_ <;> intro hb
                                      · rw [hqq] at hb
                                        simp at hb
                                        simp at hrg
                                        omega
                                      · clear hb
                                        have hla2 := HLA.out q hq2
                                        have hm1 := (HMS.out q).1
                                        obtain ⟨d1, d2, d3⟩ := HIO.out q
                                        have hsub : b.getD q 0 - (a.getD q 0 + P.2.getD q 0) = b.getD q 0 - a.getD q 0 - P.2.getD q 0 := by omega
                                        have e : costN a b P.2 (q + 1) = costN a b P.2 q + ((b.getD q 0 - a.getD q 0 - P.2.getD q 0) * (b.getD q 0 - a.getD q 0 - P.2.getD q 0) + P.2.getD q 0) := rfl
                                        repeat first | refine lwp_seq fun K hK => ?_ | (with_reducible refine gA ?_; apply_assumption -exfalso -symm) | refine Stp.h ?_ | refine gF rfl ?_ | refine gG rfl ?_
                                        (refine lwp_drawn2 hC (by rw [hP]; exact mixed) ⟨[], [], []⟩ (told0 _ _) [0, 0, 0, 6, 14, 0, 0, 96, 224, 510, 0, 0, 3072, 7168, 0, 0, 49152, 114688, 261120, 524286, 0, 0, 3145728, 7340032, 16777214, 33554431, 67108863] 26 0 rfl ?_ ?_; rotate_left 1)
                                        · rw [hqq, hla2, hsub]
                                          repeat first | refine lwp_seq fun K hK => ?_ | (with_reducible refine gA ?_; apply_assumption -exfalso -symm) | refine Stp.h ?_ | refine gF rfl ?_ | refine gG rfl ?_ | refine gM hC rfl sd ?_
                                          refine gA ⟨q + 1, ?_, ?_, sub_intro hm [(0, some 0), (1, some 1), (5, some 5), (7, some 7), (11, some 11), (26, some 26), (29, some 29)] rfl ?_⟩
                                          · omega
                                          · omega
                                          · rw [e]
                                            exact sd
                                        · rw [hqq, hla2, hsub]
                                          exact sd
                                    · rw [hqq]
                                      exact sd
                                  · obtain rfl : q = k := by omega
                                    clear hb
                                    rw [HCN.out]
                                    repeat first | refine lwp_seq fun K hK => ?_ | (with_reducible refine gA ?_; apply_assumption -exfalso -symm) | refine Stp.h ?_ | refine gF rfl ?_ | refine gG rfl ?_ | refine gM hC rfl sd ?_
                                    (refine lwp_region hC ⟨[(3, { b := some true })], [], [(4, Awake_i)]⟩ (told1 _ (by rw [hP]; exact (calls_cons (Awake_s) calls_nil))) rfl ?_ ?_; rotate_left 1)
                                    · repeat first | refine lwp_seq fun K hK => ?_ | (with_reducible refine gA ?_; apply_assumption -exfalso -symm) | refine Stp.h ?_ | refine gF rfl ?_ | refine gG rfl ?_ | refine gM hC rfl sd ?_
                                      (refine end_intro (by first | exact .inr rfl | exact .inl rfl) [] rfl ?_)
                                      exact ⟨rfl, trivial⟩
                                    · exact sd
                            · exact sd
                          · exact sd
                        · exact sd
                    · exact sd
                  · (try rw [← hm'])
                    exact sd
                · (try rw [← hr'])
                  exact sd
              · exact sd
            · exact sd
        · exact sd
      · exact sd

end Go.Proofs.YtccddhoeampdjaaGreatDoor
