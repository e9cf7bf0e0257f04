/- AlignProved: the law gives true. -/
import Derived.Test.YtfmnfagcbehmdaaGreatDoorLd
import Derived.Test.YtfmnfagcbehmdaaGreatDoorDy
set_option linter.unusedVariables false
set_option linter.unusedSimpArgs false
namespace Go.Proofs.YtfmnfagcbehmdaaGreatDoor
open Go.RowKit Go.Sym

def LawP_i (m s : List Th) (c : Cs) (l : List (Int × Int)) (n : Nat) (R : Nat → List Int) : Inst := { f := 5, gl := lawG, hin := [(0, pwC), (1, fmC), (2, .ro m.length 2 (thC m)), (3, .ro s.length 2 (thC s)), (4, .ro l.length 2 (prC l)), (5, roF n R), (6, roT 5 n R)], args := [.agg [.sl 2 m.length, .sl 3 s.length], csA c, .agg [.sl 4 l.length, .sl 6 n]], hout := [], ret := bl true, σ := [] }
theorem catL_small {n : Nat} {R : Nat → List Int} (h : ∀ e, e < n → (R e).length ≤ 9) : ∀ k, k ≤ n → (catL R k).length ≤ k * 9
 | 0, _ => by simp [catL]
 | k + 1, hk => by
  have := catL_small h k (by omega)
  have := h k (by omega)
  simp only [catL, List.length_append]
  omega
theorem short_lens {m s : List Th} (hS : shortS m s = true) : m.length ≤ 1000000 ∧ s.length ≤ 1000000 := by
 unfold shortS at hS
 simp only [Bool.and_eq_true] at hS
 have h3 := hS.2.2
 unfold lenS at h3
 by_cases q1 : (m.length : Int) ≤ 8 <;> by_cases q2 : (m.length : Int) = 65 <;> by_cases q3 : (s.length : Int) ≤ 8 <;> by_cases q4 : (s.length : Int) = 65 <;> simp [q1, q2, q3, q4] at h3 <;> omega
theorem short_kinds {m s : List Th} (hS : shortS m s = true) : kindsOk m ∧ kindsOk s := by
 unfold shortS at hS
 simp only [Bool.and_eq_true] at hS
 exact ⟨kinds_of hS.1, kinds_of hS.2.1⟩
set_option maxRecDepth 200000 in
set_option maxHeartbeats 16000000 in
theorem LawP_s (m s : List Th) (c : Cs) (l : List (Int × Int)) (n : Nat) (R : Nat → List Int) (hmm : m.length ≤ 9223372036854775807) (hss : s.length ≤ 9223372036854775807) (hll : l.length ≤ 9223372036854775807) (hnn : n ≤ 9223372036854775807) : (LawP_i m s c l n R).ok Tryz.prog := by
 unfold LawP_i Inst.ok; dsimp only; refine spec_of_body (tys := tys) 7 Tryz.func5 (by kernel_rfl) rfl tys_ok rfl (Nat.le_of_ble_eq_true rfl) (fun g i h => ?_) fun F hP hm hC hrd => ?_
 ·simp only [List.mem_cons, List.not_mem_nil, or_false, Prod.mk.injEq] at h
  omega
 conv => whnf
 refine lwp_seq fun K hK => ?_
 refine gM hC rfl ⟨⟩ ?_
 ((with_reducible refine gA ?_); apply_assumption -exfalso -symm)
 refine lwp_seq fun K hK => ?_
 refine lwp_early (t := ⟨[(76, bl true)], [(0, pwC), (1, fmC)], 10⟩) ?_ fun K hK hE => ?_
 ·refine lwp_condS hC rfl sd ?_ ?_ <;> intro hb
  ·clear hb
   repeat first | refine lwp_seq fun K hK => ?_ | (with_reducible refine gA ?_; apply_assumption -exfalso -symm) | refine Stp.h ?_ | refine gF rfl ?_ | refine gG rfl ?_ | refine gM hC rfl ⟨⟩ ?_
   (refine lwp_region hC ⟨[], [], [(0, Awake_i)]⟩ (told1 _ (by rw [hP]; exact (calls_cons (Awake_s) calls_nil))) rfl ?_ ?_; rotate_left 1)
   ·repeat first | refine lwp_seq fun K hK => ?_ | (with_reducible refine gA ?_; apply_assumption -exfalso -symm) | refine Stp.h ?_ | refine gF rfl ?_ | refine gG rfl ?_ | refine gM hC rfl ⟨⟩ ?_
    (refine end_intro (by first | exact .inr rfl | exact .inl rfl) [] rfl ?_)
    exact ⟨rfl, trivial⟩
   ·exact sd
  ·exact absurd hb (by decide)
 by_cases hS : shortS m s = true
 ·obtain ⟨km, ks⟩ := short_kinds hS
  obtain ⟨hm', hs'⟩ := short_lens hS
  by_cases hrz : rideS m s = 0
  ·by_cases c1 : (8 : Int) < m.length
   ·(refine lwp_region hC ⟨[(7, { b := some false }), (12, { b := some false }), (18, { b := some true }), (19, { g := some false }), (20, { g := some false }), (21, { g := some false }), (22, { g := some false }), (25, { g := some false }), (26, { g := some false }), (27, { g := some false }), (30, { g := some false }), (31, { g := some false }), (32, { g := some false }), (33, { g := some false }), (36, { g := some false }), (37, { g := some false }), (38, { g := some false }), (39, { g := some false })], [], [(0, Awake_i), (4, Short_i m s [(0, some 2), (1, some 3)]), (9, RRide_i m s [(0, some 2), (1, some 3)])]⟩ (told1 _ (by rw [hP]; exact (calls_cons (Awake_s) (calls_cons (Short_s _ _ _ hmm hss) (calls_cons (RRide_s _ _ _ hm' hs' km ks) calls_nil))))) rfl ?_ ?_; rotate_left 1)
    ·refine gA (hE _ (sub_intro hm [(0, some 0), (1, some 1)] rfl ?_))
     first | exact sd | (simp [AllL, All, cd_p, cp_p, cv_p, *]; done)
    ·simp [AllL, All, cd_p, cp_p, cv_p, *] <;> first | omega | (intro h9; simp [h9] at *)
   ·by_cases c2 : (8 : Int) < s.length
    ·(refine lwp_region hC ⟨[(7, { b := some false }), (12, { b := some false }), (18, { b := some false }), (24, { b := some true }), (25, { g := some false }), (26, { g := some false }), (27, { g := some false }), (30, { g := some false }), (31, { g := some false }), (32, { g := some false }), (33, { g := some false }), (36, { g := some false }), (37, { g := some false }), (38, { g := some false }), (39, { g := some false })], [], [(0, Awake_i), (4, Short_i m s [(0, some 2), (1, some 3)]), (9, RRide_i m s [(0, some 2), (1, some 3)])]⟩ (told1 _ (by rw [hP]; exact (calls_cons (Awake_s) (calls_cons (Short_s _ _ _ hmm hss) (calls_cons (RRide_s _ _ _ hm' hs' km ks) calls_nil))))) rfl ?_ ?_; rotate_left 1)
     ·refine gA (hE _ (sub_intro hm [(0, some 0), (1, some 1)] rfl ?_))
      first | exact sd | (simp [AllL, All, cd_p, cp_p, cv_p, *]; done)
     ·simp [AllL, All, cd_p, cp_p, cv_p, *] <;> first | omega | (intro h9; simp [h9] at *)
    ·by_cases hkz : costsS c.missed c.unseen c.stretch = 0
     ·by_cases hQ : shortPS l = true
      ·have hl' : l.length ≤ 1000000 := by
        unfold shortPS at hQ
        by_cases q1 : (l.length : Int) ≤ 9 <;> by_cases q2 : (l.length : Int) = 65 <;> simp [q1, q2] at hQ <;> omega
       by_cases hT : shTS n R = true
       ·clear hE
        (refine lwp_region hC ⟨[(7, { b := some false }), (12, { b := some false }), (18, { b := some false }), (24, { b := some false }), (29, { b := some false }), (35, { b := some false })], [], [(0, Awake_i), (4, Short_i m s [(0, some 2), (1, some 3)]), (9, RRide_i m s [(0, some 2), (1, some 3)]), (26, RCosts_i c.missed c.unseen c.stretch), (32, ShortP_i l [(0, some 4)]), (38, ShT_i n R [(0, some 5), (1, some 6)])]⟩ (told1 _ (by rw [hP]; exact (calls_cons (Awake_s) (calls_cons (Short_s _ _ _ hmm hss) (calls_cons (RRide_s _ _ _ hm' hs' km ks) (calls_cons (RCosts_s _ _ _) (calls_cons (ShortP_s _ _ hll) (calls_cons (ShT_s _ _ _ hnn) calls_nil)))))))) rfl ?_ ?_; rotate_left 1)
        ·repeat first | refine lwp_seq fun K hK => ?_ | (with_reducible refine gA ?_; apply_assumption -exfalso -symm) | refine Stp.h ?_ | refine gF rfl ?_ | refine gG rfl ?_ | refine gM hC rfl sd ?_
         refine lwp_condS hC rfl sd ?_ ?_ <;> intro hb
         ·exact absurd hb (by simp [hT])
         ·clear hb
          have hE : aligE m s c = 0 := by
           unfold aligE
           rw [firstS_cons, firstS_cons]
           exact ⟨hrz, hkz, rfl⟩
          obtain ⟨AL, n0, T, S, HP⟩ := proved (l := l) (n := n) (R := R) (m := m) (s := s) (c := c) hE (by omega)
          have hq2 : (∀ e, e < n → (R e).length ≤ 9) ∧ n ≤ 9 := by
           unfold shTS at hT
           rw [Bool.and_eq_true, all_iff] at hT
           exact ⟨fun e he => of_decide_eq_true (hT.1 e he), of_decide_eq_true hT.2⟩
          obtain ⟨hR9, hn9⟩ := hq2
          have hcat := fun (_ : aligE m s c = 0) (_ : ctS m s n R ≠ 2) => Nat.le_trans (catL_small hR9 n (Nat.le_refl _)) (show n * 9 ≤ 200 by omega)
          have hR6 : ∀ e, e < n → (R e).length ≤ 1000000 := fun e he => by have := hR9 e he; omega
          have HCAT := Lib.hid hcat
          have HR6 := Lib.hid hR6
          have hcT : ∀ (F : Nat → List Int), (∀ e, (F e).length = m.length) → (catL F s.length).length ≤ 200 := fun F hF => Nat.le_trans (catL_small (fun e he => by rw [hF e]; omega) s.length (Nat.le_refl _)) (show s.length * 9 ≤ 200 by omega)
          have hcTT := hcT T HP.tl
          have htl1 : ∀ e, e < s.length → (T e).length ≤ 1000000 := fun e _ => by rw [HP.tl]; exact hm'
          have hAE := HP.al
          have hAN := HP.an
          have hTN := HP.tn
          have hTF := HP.tf
          have hAll := HP.ll
          obtain ⟨nb1, nb2⟩ := HP.nb
          have HAE := Lib.hid hAE
          have HAN := Lib.hid hAN
          have HTN := Lib.hid hTN
          have HTF := Lib.hid hTF
          have HTL := Lib.hid htl1
          have HCT := Lib.hid hcT
          have HPP := Lib.hid HP
          have HO1 := Lib.hid HP.o1
          have HO2 := Lib.hid HP.o2
          have HTS := Lib.hid HP.ts
          have HZ := Lib.hid hE
          clear hR9 hcat hR6 hAE hAN hTN hTF htl1 hcT HP hE
          repeat first | refine lwp_seq fun K hK => ?_ | (with_reducible refine gA ?_; apply_assumption -exfalso -symm) | refine Stp.h ?_ | refine gF rfl ?_ | refine gG rfl ?_ | refine gM hC rfl sd ?_
          (refine lwp_drawn hC (by rw [hP]; exact mixed) ⟨[], [], [(1, Own_i m s [(0, some 2), (1, some 3)]), (3, Aligned_i m s c [(0, some 10), (1, some 11)])]⟩ (told1 _ (by rw [hP]; exact (calls_cons (Own_s _ _ _ hm' hs') (calls_cons (Aligned_s _ _ _ _ hm' hs') calls_nil)))) [0, 1, 0, 7, 15, 31, 31, 31, 63, 383, 1023] 10 rfl ?_ ?_; rotate_left 1)
          ·rw [HAE.out, HAN.out, HZ.out]
           repeat first | refine lwp_seq fun K hK => ?_ | (with_reducible refine gA ?_; apply_assumption -exfalso -symm) | refine Stp.h ?_ | refine gF rfl ?_ | refine gG rfl ?_ | refine gM hC rfl sd ?_
           (refine lwp_drawn hC (by rw [hP]; exact mixed) ⟨[], [], [(1, Own_i m s [(0, some 2), (1, some 3)]), (4, LPairsC_i AL [(0, some 12)]), (5, Given_i AL [(0, some 15)]), (6, Cost_i m s c AL [(0, some 13), (1, some 14), (2, some 16)])]⟩ (told1 _ (by rw [hP]; exact (calls_cons (Own_s _ _ _ hm' hs') (calls_cons (LPairsC_s _ _ (by omega)) (calls_cons (Given_s _ _ (by omega)) (calls_cons (Cost_s _ _ _ _ _ hm' hs' (by omega)) calls_nil)))))) [0, 1, 0, 0, 11, 27, 63, 127, 255, 255, 511, 2047] 11 rfl ?_ ?_; rotate_left 1)
           ·rw [HPP.out.ce, HPP.out.cr]
            repeat first | refine lwp_seq fun K hK => ?_ | (with_reducible refine gA ?_; apply_assumption -exfalso -symm) | refine Stp.h ?_ | refine gF rfl ?_ | refine gG rfl ?_ | refine gM hC rfl sd ?_
            (refine lwp_drawn hC (by rw [hP]; exact mixed) ⟨[], [], [(1, Own_i m s [(0, some 2), (1, some 3)]), (3, Table_i m s c [(0, some 17), (1, some 18)])]⟩ (told1 _ (by rw [hP]; exact (calls_cons (Own_s _ _ _ hm' hs') (calls_cons (Table_s _ _ _ _ hm' hs') calls_nil)))) [0, 1, 0, 7, 15, 31, 31, 63, 255] 8 rfl ?_ ?_; rotate_left 1)
            ·rw [HTN.out, HTF.out, HZ.out]
             repeat first | refine lwp_seq fun K hK => ?_ | (with_reducible refine gA ?_; apply_assumption -exfalso -symm) | refine Stp.h ?_ | refine gF rfl ?_ | refine gG rfl ?_ | refine gM hC rfl sd ?_
             (refine lwp_drawn hC (by rw [hP]; exact mixed) ⟨[], [], [(1, Own_i m s [(0, some 2), (1, some 3)]), (4, LTab_i s.length T [(0, some 20), (1, some 19)]), (5, CheckT_i m s c s.length T [(0, some 21), (1, some 22), (2, some 24), (3, some 23)])]⟩ (told1 _ (by rw [hP]; exact (calls_cons (Own_s _ _ _ hm' hs') (calls_cons (LTab_s _ _ _ hs' HTL.out) (calls_cons (CheckT_s _ _ _ _ _ _ hm' hs' hs' (fun _ _ => hcTT)) calls_nil))))) [0, 1, 0, 0, 11, 31, 63, 127, 127, 255, 1023] 10 rfl ?_ ?_; rotate_left 1)
             ·rw [HPP.out.te, HPP.out.tb]
              repeat first | refine lwp_seq fun K hK => ?_ | (with_reducible refine gA ?_; apply_assumption -exfalso -symm) | refine Stp.h ?_ | refine gF rfl ?_ | refine gG rfl ?_ | refine gM hC rfl sd ?_
              (refine lwp_drawn2 hC (by rw [hP]; exact mixed) ⟨[(2, { b := some false }), (6, { b := some false }), (10, { b := some false }), (14, { b := some false }), (19, { b := some false }), (24, { b := some false }), (30, { b := some false })], [], [(27, RShape_i m s s.length T [(0, some 2), (1, some 3), (2, some 20), (3, some 19)]), (33, LPairsC_i AL [(0, some 12)]), (34, RPairs_i m s AL [(0, some 2), (1, some 3), (2, some 25)])]⟩ (told1 _ (by rw [hP]; exact (calls_cons (RShape_s _ _ _ _ _ hm' hs' hs' HTL.out) (calls_cons (LPairsC_s _ _ (by omega)) (calls_cons (RPairs_s _ _ _ _ hm' hs' (by omega)) calls_nil))))) [0, 1, 3, 7, 15, 31, 63, 127, 255, 511, 1023, 2047, 4095, 8191, 16383, 32767, 32767, 131071, 262143, 524287, 1048575, 1048575, 4194303, 8388607, 16777215, 33554431, 33554431, 134217727, 268435455, 536870911, 1073741823, 2147483647, 2147483647, 6442450943, 17179869183, 34359738367, 68719476735] 37 0 rfl ?_ ?_; rotate_left 1)
              ·rw [HPP.out.rp]
               repeat first | refine lwp_seq fun K hK => ?_ | (with_reducible refine gA ?_; apply_assumption -exfalso -symm) | refine Stp.h ?_ | refine gF rfl ?_ | refine gG rfl ?_ | refine gM hC rfl sd ?_
               refine lwp_condS hC rfl sd ?_ ?_ <;> intro hb
               ·exact absurd hb (by simp)
               ·clear hb
                refine gI ?_
                
                ((with_reducible refine gA ?_); apply_assumption -exfalso -symm)
                refine lwp_cut (t := ⟨[(3, .ptr 7 0 0 0), (4, .ptr 8 0 0 0), (5, .ptr 9 0 0 0), (7, .sl 10 AL.length), (8, i64 n0), (12, .sl 12 s.length)], [(2, .ro m.length 2 (thC m)), (3, .ro s.length 2 (thC s)), (7, .blk 25 [.sl 2 m.length, .sl 3 s.length]), (8, .blk 27 [i64 c.missed, i64 c.unseen, i64 c.stretch]), (10, .row 75 AL.length 2 (prC AL)), (11, famC s.length T), (12, tabC 11 s.length T), (4, .ro l.length 2 (prC l)), (5, roF n R), (6, roT 5 n R), (9, .blk 67 [.sl 4 l.length, .sl 6 n])], 13⟩) ?_ ?_
                ·repeat first | refine lwp_seq fun K hK => ?_ | (with_reducible refine gA ?_; apply_assumption -exfalso -symm) | refine Stp.h ?_ | refine gF rfl ?_ | refine gG rfl ?_ | refine gM hC rfl sd ?_
                 (refine lwp_drawn hC (by rw [hP]; exact mixed) ⟨[], [], [(1, Own_i m s [(0, some 2), (1, some 3)]), (5, Given_i l [(0, some 4)]), (6, Cost_i m s c l [(0, some 26), (1, some 27), (2, some 28)])]⟩ (told1 _ (by rw [hP]; exact (calls_cons (Own_s _ _ _ hm' hs') (calls_cons (Given_s _ _ hl') (calls_cons (Cost_s _ _ _ _ _ hm' hs' hl') calls_nil))))) [0, 1, 0, 0, 8, 27, 63, 127, 255, 255, 511, 2047] 11 rfl ?_ ?_; rotate_left 1)
                 ·have ho1 := HO1.out
                  obtain ⟨ce, hce⟩ : ∃ ce, costE m s c l = ce := ⟨_, rfl⟩
                  obtain ⟨cr, hcr⟩ : ∃ cr, costR m s c l = cr := ⟨_, rfl⟩
                  rw [hce, hcr] at ho1 ⊢
                  clear hce hcr
                  have HO := Lib.hid ho1
                  clear ho1
                  repeat first | refine lwp_seq fun K hK => ?_ | (with_reducible refine gA ?_; apply_assumption -exfalso -symm) | refine Stp.h ?_ | refine gF rfl ?_ | refine gG rfl ?_ | refine gM hC rfl sd ?_
                  by_cases q0 : ce = 0
                  ·obtain ⟨o1, o2⟩ := HO.out q0
                   by_cases q1 : cr = n0
                   ·obtain ⟨o3, o4⟩ := o2 q1
                    by_cases q2 : l.length = AL.length
                    ·have o5 := o4 q2
                     (refine lwp_drawn2 hC (by rw [hP]; exact mixed) ⟨[(2, { b := some true }), (6, { b := some false, g := some true }), (10, { b := some true, g := some true }), (17, { b := some false, g := some true }), (24, { b := some true, g := some true })], [], [(28, LPairsC_i AL [(0, some 12)]), (29, Less_i l AL [(0, some 4), (1, some 29)])]⟩ (told1 _ (by rw [hP]; exact (calls_cons (LPairsC_s _ _ (by omega)) (calls_cons (Less_s _ _ _ hl' q2.symm) calls_nil)))) [0, 1, 3, 7, 7, 31, 63, 127, 127, 511, 1023, 2047, 4095, 8191, 2047, 18431, 65535, 131071, 262143, 524287, 1048575, 262143, 2359295, 8388607, 16777215, 33554431, 67108863, 33554431, 167772159, 536870911, 1073741823, 2147483647, 4294967295, 8589934591, 17179869183] 35 0 rfl ?_ ?_; rotate_left 1)
                     ·rw [o5]
                      repeat first | refine lwp_seq fun K hK => ?_ | (with_reducible refine gA ?_; apply_assumption -exfalso -symm) | refine Stp.h ?_ | refine gF rfl ?_ | refine gG rfl ?_ | refine gM hC rfl sd ?_
                      refine lwp_condS hC rfl sd ?_ ?_ <;> intro hb
                      ·exact absurd hb (by simp)
                      ·clear hb
                       repeat first | refine lwp_seq fun K hK => ?_ | (with_reducible refine gA ?_; apply_assumption -exfalso -symm) | refine Stp.h ?_ | refine gF rfl ?_ | refine gG rfl ?_ | refine gM hC rfl sd ?_
                       refine gA (sub_intro hm [(2, some 2), (3, some 3), (4, some 4), (5, some 5), (6, some 6), (7, some 7), (8, some 8), (9, some 9), (10, some 12), (11, some 20), (12, some 19)] rfl ?_)
                       exact sd
                     ·exact sd
                    ·(refine lwp_drawn2 hC (by rw [hP]; exact mixed) ⟨[(2, { b := some true }), (6, { b := some false, g := some true }), (10, { b := some true, g := some true }), (17, { b := some false, g := some true }), (24, { b := some false, g := some true }), (25, { g := some false }), (26, { g := some false }), (27, { g := some false }), (28, { g := some false }), (29, { g := some false })], [], []⟩ (told0 _ _) [0, 1, 3, 7, 7, 31, 63, 127, 127, 511, 1023, 2047, 4095, 8191, 2047, 18431, 65535, 131071, 262143, 524287, 1048575, 262143, 2359295, 8388607, 16777215, 33554431, 67108863, 33554431, 167772159, 536870911, 1073741823, 2147483647, 4294967295, 8589934591, 17179869183] 35 0 rfl ?_ ?_; rotate_left 1)
                     ·repeat first | refine lwp_seq fun K hK => ?_ | (with_reducible refine gA ?_; apply_assumption -exfalso -symm) | refine Stp.h ?_ | refine gF rfl ?_ | refine gG rfl ?_ | refine gM hC rfl sd ?_
                      refine lwp_condS hC rfl sd ?_ ?_ <;> intro hb
                      ·exact absurd hb (by simp)
                      ·clear hb
                       repeat first | refine lwp_seq fun K hK => ?_ | (with_reducible refine gA ?_; apply_assumption -exfalso -symm) | refine Stp.h ?_ | refine gF rfl ?_ | refine gG rfl ?_ | refine gM hC rfl sd ?_
                       refine gA (sub_intro hm [(2, some 2), (3, some 3), (4, some 4), (5, some 5), (6, some 6), (7, some 7), (8, some 8), (9, some 9), (10, some 12), (11, some 20), (12, some 19)] rfl ?_)
                       exact sd
                     ·exact sd
                   ·(refine lwp_drawn2 hC (by rw [hP]; exact mixed) ⟨[(2, { b := some true }), (6, { b := some false, g := some true }), (10, { b := some false, g := some true }), (11, { g := some false }), (12, { g := some false }), (13, { g := some false }), (14, { g := some false }), (15, { g := some false }), (16, { g := some false }), (17, { g := some false }), (18, { g := some false }), (19, { g := some false }), (20, { g := some false }), (21, { g := some false }), (22, { g := some false }), (23, { g := some false }), (24, { g := some false }), (25, { g := some false }), (26, { g := some false }), (27, { g := some false }), (28, { g := some false }), (29, { g := some false }), (30, { g := some false }), (31, { g := some false })], [], []⟩ (told0 _ _) [0, 1, 3, 7, 7, 31, 63, 127, 127, 511, 1023, 2047, 4095, 8191, 2047, 18431, 65535, 131071, 262143, 524287, 1048575, 262143, 2359295, 8388607, 16777215, 33554431, 67108863, 33554431, 167772159, 536870911, 1073741823, 2147483647, 4294967295, 8589934591, 17179869183] 35 0 rfl ?_ ?_; rotate_left 1)
                    ·repeat first | refine lwp_seq fun K hK => ?_ | (with_reducible refine gA ?_; apply_assumption -exfalso -symm) | refine Stp.h ?_ | refine gF rfl ?_ | refine gG rfl ?_ | refine gM hC rfl sd ?_
                     refine lwp_condS hC rfl sd ?_ ?_ <;> intro hb
                     ·exact absurd hb (by simp)
                     ·clear hb
                      repeat first | refine lwp_seq fun K hK => ?_ | (with_reducible refine gA ?_; apply_assumption -exfalso -symm) | refine Stp.h ?_ | refine gF rfl ?_ | refine gG rfl ?_ | refine gM hC rfl sd ?_
                      refine gA (sub_intro hm [(2, some 2), (3, some 3), (4, some 4), (5, some 5), (6, some 6), (7, some 7), (8, some 8), (9, some 9), (10, some 12), (11, some 20), (12, some 19)] rfl ?_)
                      exact sd
                    ·exact sd
                  ·(refine lwp_drawn2 hC (by rw [hP]; exact mixed) ⟨[(2, { b := some false }), (3, { g := some false }), (4, { g := some false }), (5, { g := some false }), (6, { g := some false }), (7, { g := some false }), (8, { g := some false }), (9, { g := some false }), (10, { g := some false }), (11, { g := some false }), (12, { g := some false }), (13, { g := some false }), (14, { g := some false }), (15, { g := some false }), (16, { g := some false }), (17, { g := some false }), (18, { g := some false }), (19, { g := some false }), (20, { g := some false }), (21, { g := some false }), (22, { g := some false }), (23, { g := some false }), (24, { g := some false }), (25, { g := some false }), (26, { g := some false }), (27, { g := some false }), (28, { g := some false }), (29, { g := some false }), (30, { g := some false }), (31, { g := some false }), (32, { g := some false }), (33, { g := some false })], [], []⟩ (told0 _ _) [0, 1, 3, 7, 7, 31, 63, 127, 127, 511, 1023, 2047, 4095, 8191, 2047, 18431, 65535, 131071, 262143, 524287, 1048575, 262143, 2359295, 8388607, 16777215, 33554431, 67108863, 33554431, 167772159, 536870911, 1073741823, 2147483647, 4294967295, 8589934591, 17179869183] 35 0 rfl ?_ ?_; rotate_left 1)
                   ·repeat first | refine lwp_seq fun K hK => ?_ | (with_reducible refine gA ?_; apply_assumption -exfalso -symm) | refine Stp.h ?_ | refine gF rfl ?_ | refine gG rfl ?_ | refine gM hC rfl sd ?_
                    refine lwp_condS hC rfl sd ?_ ?_ <;> intro hb
                    ·exact absurd hb (by simp)
                    ·clear hb
                     repeat first | refine lwp_seq fun K hK => ?_ | (with_reducible refine gA ?_; apply_assumption -exfalso -symm) | refine Stp.h ?_ | refine gF rfl ?_ | refine gG rfl ?_ | refine gM hC rfl sd ?_
                     refine gA (sub_intro hm [(2, some 2), (3, some 3), (4, some 4), (5, some 5), (6, some 6), (7, some 7), (8, some 8), (9, some 9), (10, some 12), (11, some 20), (12, some 19)] rfl ?_)
                     exact sd
                   ·exact sd
                 ·exact sd
                ·refine lwp_cut (t := ⟨[(3, .ptr 7 0 0 0), (4, .ptr 8 0 0 0), (7, .sl 10 AL.length), (8, i64 n0), (12, .sl 12 s.length)], [(2, .ro m.length 2 (thC m)), (3, .ro s.length 2 (thC s)), (7, .blk 25 [.sl 2 m.length, .sl 3 s.length]), (8, .blk 27 [i64 c.missed, i64 c.unseen, i64 c.stretch]), (10, .row 75 AL.length 2 (prC AL)), (11, famC s.length T), (12, tabC 11 s.length T)], 13⟩) ?_ ?_
                 ·repeat first | refine lwp_seq fun K hK => ?_ | (with_reducible refine gA ?_; apply_assumption -exfalso -symm) | refine Stp.h ?_ | refine gF rfl ?_ | refine gG rfl ?_ | refine gM hC rfl ⟨⟩ ?_
                  (refine lwp_drawn hC (by rw [hP]; exact mixed) ⟨[], [], [(1, Own_i m s [(0, some 2), (1, some 3)]), (5, LTab_i n R [(0, some 5), (1, some 6)]), (6, CheckT_i m s c n R [(0, some 13), (1, some 14), (2, some 16), (3, some 15)])]⟩ (told1 _ (by rw [hP]; exact (calls_cons (Own_s _ _ _ hm' hs') (calls_cons (LTab_s _ _ _ (by omega) HR6.out) (calls_cons (CheckT_s _ _ _ _ _ _ hm' hs' (by omega) HCAT.out) calls_nil))))) [0, 1, 0, 0, 8, 27, 63, 127, 255, 255, 511, 2047] 11 rfl ?_ ?_; rotate_left 1)
                  ·have ho2 := HO2.out
                   obtain ⟨ce, hce⟩ : ∃ ce, ctE m s c n R = ce := ⟨_, rfl⟩
                   obtain ⟨cn, hcn⟩ : ∃ cn, ctN m s c n R = cn := ⟨_, rfl⟩
                   rw [hce, hcn] at ho2 ⊢
                   clear hce hcn
                   repeat first | refine lwp_seq fun K hK => ?_ | (with_reducible refine gA ?_; apply_assumption -exfalso -symm) | refine Stp.h ?_ | refine gF rfl ?_ | refine gG rfl ?_ | refine gM hC rfl sd ?_
                   refine lwp_condS hC rfl sd ?_ ?_ <;> intro hb
                   ·exfalso
                    by_cases q : ce = 0
                    ·have := ho2 q
                     simp [q] at hb
                     omega
                    ·simp [q] at hb
                   ·clear hb ho2
                    repeat first | refine lwp_seq fun K hK => ?_ | (with_reducible refine gA ?_; apply_assumption -exfalso -symm) | refine Stp.h ?_ | refine gF rfl ?_ | refine gG rfl ?_ | refine gM hC rfl sd ?_
                    refine gA (sub_intro hm [(2, some 2), (3, some 3), (7, some 7), (8, some 8), (10, some 10), (11, some 11), (12, some 12)] rfl ?_)
                    exact sd
                  ·exact sd
                 ·repeat first | refine lwp_seq fun K hK => ?_ | (with_reducible refine gA ?_; apply_assumption -exfalso -symm) | refine Stp.h ?_ | refine gF rfl ?_ | refine gG rfl ?_ | refine gM hC rfl sd ?_
                  refine lwp_loop (fun i : Nat => ⟨[(213, i64 i), (212, i64 s.length), (211, .sl 12 s.length), (3, .ptr 7 0 0 0), (4, .ptr 8 0 0 0), (7, .sl 10 AL.length), (8, i64 n0), (12, .sl 12 s.length)], [(2, .ro m.length 2 (thC m)), (3, .ro s.length 2 (thC s)), (7, .blk 25 [.sl 2 m.length, .sl 3 s.length]), (8, .blk 27 [i64 c.missed, i64 c.unseen, i64 c.stretch]), (10, .row 75 AL.length 2 (prC AL)), (11, famC s.length T), (12, tabC 11 s.length T)], 13⟩) (fun i => i ≤ s.length) (fun i => s.length - i) 0 ⟨?_, sub_intro hm [(2, some 2), (3, some 3), (7, some 7), (8, some 8), (10, some 10), (11, some 11), (12, some 12)] rfl ?_⟩ ?_
                  ·exact Nat.zero_le _
                  ·exact sd
                  ·rintro i hi
                   have e1 : (i : Int).toNat = i := Int.toNat_natCast i
                   repeat first | refine lwp_seq fun K hK => ?_ | (with_reducible refine gA ?_; apply_assumption -exfalso -symm) | refine Stp.h ?_ | refine gF rfl ?_ | refine gG rfl ?_ | refine gM hC rfl sd ?_
                   refine lwp_condS hC rfl sd ?_ ?_ <;> intro hb
                   ·have hil : i < s.length := by omega
                    have htl := HPP.out.tl i
                    repeat first | refine lwp_seq fun K hK => ?_ | (with_reducible refine gA ?_; apply_assumption -exfalso -symm) | refine Stp.h ?_ | refine gF rfl ?_ | refine gG rfl ?_ | refine gM hC rfl sd ?_
                    simp only [e1]
                    refine lwp_loop (fun k : Nat => ⟨[(220, i64 k), (219, i64 (T i).length), (218, .tb 11 (.row i (T i).length)), (20, i64 i), (213, i64 i), (212, i64 s.length), (211, .sl 12 s.length), (3, .ptr 7 0 0 0), (4, .ptr 8 0 0 0), (7, .sl 10 AL.length), (8, i64 n0), (12, .sl 12 s.length)], [(2, .ro m.length 2 (thC m)), (3, .ro s.length 2 (thC s)), (7, .blk 25 [.sl 2 m.length, .sl 3 s.length]), (8, .blk 27 [i64 c.missed, i64 c.unseen, i64 c.stretch]), (10, .row 75 AL.length 2 (prC AL)), (11, famC s.length T), (12, tabC 11 s.length T)], 13⟩) (fun k => k ≤ (T i).length) (fun k => (T i).length - k) 0 ⟨?_, sub_intro hm [(2, some 2), (3, some 3), (7, some 7), (8, some 8), (10, some 10), (11, some 11), (12, some 12)] rfl ?_⟩ ?_
                    ·exact Nat.zero_le _
                    ·exact sd
                    ·rintro k hk
                     have e2 : (k : Int).toNat = k := Int.toNat_natCast k
                     repeat first | refine lwp_seq fun K hK => ?_ | (with_reducible refine gA ?_; apply_assumption -exfalso -symm) | refine Stp.h ?_ | refine gF rfl ?_ | refine gG rfl ?_ | refine gM hC rfl sd ?_
                     refine lwp_condS hC rfl sd ?_ ?_ <;> intro hb
                     ·have hkl : k < (T i).length := by omega
                      have hyb := HTS.out i k
                      repeat first | refine lwp_seq fun K hK => ?_ | (with_reducible refine gA ?_; apply_assumption -exfalso -symm) | refine Stp.h ?_ | refine gF rfl ?_ | refine gG rfl ?_ | refine gM hC rfl sd ?_
                      simp only [e2]
                      obtain ⟨y, hy⟩ : ∃ y, (T i).getD k 0 = y := ⟨_, rfl⟩
                      rw [hy] at hyb ⊢
                      repeat first | refine lwp_seq fun K hK => ?_ | (with_reducible refine gA ?_; apply_assumption -exfalso -symm) | refine Stp.h ?_ | refine gF rfl ?_ | refine gG rfl ?_ | refine gM hC rfl sd ?_
                      refine lwp_condS hC rfl sd ?_ ?_ <;> intro hb
                      ·clear hb
                       repeat first | refine lwp_seq fun K hK => ?_ | (with_reducible refine gA ?_; apply_assumption -exfalso -symm) | refine Stp.h ?_ | refine gF rfl ?_ | refine gG rfl ?_ | refine gM hC rfl sd ?_
                       refine gA ⟨k + 1, ?_, ?_, sub_intro hm [(2, some 2), (3, some 3), (7, some 7), (8, some 8), (10, some 10), (11, some 11), (12, some 12)] rfl ?_⟩
                       ·omega
                       ·omega
                       ·exact sd
                      ·have hy0 : 0 ≤ y := by
                        by_cases q : y < 0
                        ·simp [q] at hb
                        ·omega
                       clear hb
                       repeat first | refine lwp_seq fun K hK => ?_ | (with_reducible refine gA ?_; apply_assumption -exfalso -symm) | refine Stp.h ?_ | refine gF rfl ?_ | refine gG rfl ?_ | refine gM hC rfl sd ?_
                       (refine lwp_region hC ⟨[], [], [(1, LTab_i s.length T [(0, some 11), (1, some 12)])]⟩ (told1 _ (by rw [hP]; exact (calls_cons (LTab_s _ _ _ hs' HTL.out) calls_nil))) rfl ?_ ?_; rotate_left 1)
                       ·repeat first | refine lwp_seq fun K hK => ?_ | (with_reducible refine gA ?_; apply_assumption -exfalso -symm) | refine Stp.h ?_ | refine gF rfl ?_ | refine gG rfl ?_ | refine gM hC rfl sd ?_
                        simp only [e1, e2]
                        (refine lwp_drawn hC (by rw [hP]; exact mixed) ⟨[], [], [(1, Own_i m s [(0, some 2), (1, some 3)]), (4, CheckT_i m s c s.length (raiseF T i k) [(0, some 16), (1, some 17), (2, some 14), (3, some 13)])]⟩ (told1 _ (by rw [hP]; exact (calls_cons (Own_s _ _ _ hm' hs') (calls_cons (CheckT_s _ _ _ _ _ _ hm' hs' hs' (fun _ _ => HCT.out _ (fun e => by rw [raise_len]; exact HPP.out.tl e))) calls_nil)))) [0, 1, 0, 0, 15, 31, 63, 63, 127, 511] 9 rfl ?_ ?_; rotate_left 1)
                        ·rw [HPP.out.ra i k hil (by omega) (by omega)]
                         repeat first | refine lwp_seq fun K hK => ?_ | (with_reducible refine gA ?_; apply_assumption -exfalso -symm) | refine Stp.h ?_ | refine gF rfl ?_ | refine gG rfl ?_ | refine gM hC rfl sd ?_
                         refine lwp_condS hC rfl sd ?_ ?_ <;> intro hb
                         ·exact absurd hb (by decide)
                         ·clear hb
                          repeat first | refine lwp_seq fun K hK => ?_ | (with_reducible refine gA ?_; apply_assumption -exfalso -symm) | refine Stp.h ?_ | refine gF rfl ?_ | refine gG rfl ?_ | refine gM hC rfl sd ?_
                          refine gA ⟨k + 1, ?_, ?_, sub_intro hm [(2, some 2), (3, some 3), (7, some 7), (8, some 8), (10, some 10), (11, some 11), (12, some 12)] rfl ?_⟩
                          ·omega
                          ·omega
                          ·exact sd
                        ·simp only [raise_cells, raise_len]
                         exact sd
                       ·exact sd
                     ·obtain rfl : k = (T i).length := by omega
                      repeat first | refine lwp_seq fun K hK => ?_ | (with_reducible refine gA ?_; apply_assumption -exfalso -symm) | refine Stp.h ?_ | refine gF rfl ?_ | refine gG rfl ?_ | refine gM hC rfl sd ?_
                      refine gA ⟨i + 1, ?_, ?_, sub_intro hm [(2, some 2), (3, some 3), (7, some 7), (8, some 8), (10, some 10), (11, some 11), (12, some 12)] rfl ?_⟩
                      ·omega
                      ·omega
                      ·exact sd
                   ·obtain rfl : i = s.length := by omega
                    repeat first | refine lwp_seq fun K hK => ?_ | (with_reducible refine gA ?_; apply_assumption -exfalso -symm) | refine Stp.h ?_ | refine gF rfl ?_ | refine gG rfl ?_ | refine gM hC rfl sd ?_
                    (refine lwp_drawn hC (by rw [hP]; exact mixed) ⟨[], [], [(1, Own_i m s [(0, some 2), (1, some 3)]), (3, Sure_i m s c [(0, some 13), (1, some 14)])]⟩ (told1 _ (by rw [hP]; exact (calls_cons (Own_s _ _ _ hm' hs') (calls_cons (Sure_s _ _ _ _ hm' hs') calls_nil)))) [0, 1, 0, 7, 15, 31, 31, 63, 255] 8 rfl ?_ ?_; rotate_left 1)
                    ·rw [HPP.out.sl, HZ.out]
                     have hse := HPP.out.se
                     repeat first | refine lwp_seq fun K hK => ?_ | (with_reducible refine gA ?_; apply_assumption -exfalso -symm) | refine Stp.h ?_ | refine gF rfl ?_ | refine gG rfl ?_ | refine gM hC rfl sd ?_
                     refine lwp_condS hC rfl sd ?_ ?_ <;> intro hb
                     ·exfalso
                      simp at hb
                      omega
                     ·clear hb
                      repeat first | refine lwp_seq fun K hK => ?_ | (with_reducible refine gA ?_; apply_assumption -exfalso -symm) | refine Stp.h ?_ | refine gF rfl ?_ | refine gG rfl ?_ | refine gM hC rfl sd ?_
                      refine lwp_loop (fun j : Nat => ⟨[(272, i64 j), (271, i64 S.length), (270, .sl 11 S.length), (3, .ptr 7 0 0 0), (4, .ptr 8 0 0 0), (7, .sl 10 AL.length), (8, i64 n0)], [(2, .ro m.length 2 (thC m)), (3, .ro s.length 2 (thC s)), (7, .blk 25 [.sl 2 m.length, .sl 3 s.length]), (8, .blk 27 [i64 c.missed, i64 c.unseen, i64 c.stretch]), (10, .row 75 AL.length 2 (prC AL)), (11, .row 75 S.length 2 (prC S))], 12⟩) (fun j => j ≤ S.length) (fun j => S.length - j) 0 ⟨?_, sub_intro hm [(2, some 2), (3, some 3), (7, some 7), (8, some 8), (10, some 10), (11, some 15)] rfl ?_⟩ ?_
                      ·exact Nat.zero_le _
                      ·exact sd
                      ·rintro j hj
                       have e3 : (j : Int).toNat = j := Int.toNat_natCast j
                       repeat first | refine lwp_seq fun K hK => ?_ | (with_reducible refine gA ?_; apply_assumption -exfalso -symm) | refine Stp.h ?_ | refine gF rfl ?_ | refine gG rfl ?_ | refine gM hC rfl sd ?_
                       refine lwp_condS hC rfl sd ?_ ?_ <;> intro hb
                       ·have hjl : j < S.length := by omega
                        have hmem : S.getD j (0, 0) ∈ S := by rw [List.getD_eq_getElem?_getD, List.getElem?_eq_getElem hjl]; exact List.getElem_mem hjl
                        have hsw := HPP.out.sw _ hmem
                        clear hmem
                        repeat first | refine lwp_seq fun K hK => ?_ | (with_reducible refine gA ?_; apply_assumption -exfalso -symm) | refine Stp.h ?_ | refine gF rfl ?_ | refine gG rfl ?_ | refine gM hC rfl sd ?_
                        simp only [e3]
                        obtain ⟨p, hp⟩ : ∃ p, S.getD j (0, 0) = p := ⟨_, rfl⟩
                        rw [hp] at hsw ⊢
                        have HSW := Lib.hid hsw
                        clear hsw hp
                        repeat first | refine lwp_seq fun K hK => ?_ | (with_reducible refine gA ?_; apply_assumption -exfalso -symm) | refine Stp.h ?_ | refine gF rfl ?_ | refine gG rfl ?_ | refine gM hC rfl sd ?_
                        (refine lwp_region hC ⟨[], [], [(1, LPairsC_i AL [(0, some 10)])]⟩ (told1 _ (by rw [hP]; exact (calls_cons (LPairsC_s _ _ (by omega)) calls_nil))) rfl ?_ ?_; rotate_left 1)
                        ·repeat first | refine lwp_seq fun K hK => ?_ | (with_reducible refine gA ?_; apply_assumption -exfalso -symm) | refine Stp.h ?_ | refine gF rfl ?_ | refine gG rfl ?_ | refine gM hC rfl sd ?_
                         have hw0 : without p (AL.take 0) = [] := rfl
                         have hwl : ∀ k, (without p (AL.take k)).length ≤ k := fun k => by
                          unfold without
                          refine Nat.le_trans (List.length_filter_le _ _) ?_
                          rw [List.length_take]
                          omega
                         have hwk := fun k (hk : k < AL.length) => without_step p hk
                         obtain ⟨W, hW⟩ : ∃ W, (fun k => without p (AL.take k)) = W := ⟨_, rfl⟩
                         have hWk : ∀ k, without p (AL.take k) = W k := fun k => congrFun hW k
                         have hWn : W AL.length = without p AL := by rw [← hWk, List.take_of_length_le (Nat.le_refl _)]
                         simp only [hWk] at hw0 hwl hwk
                         have HWK := Lib.hid hwk
                         have HWL := Lib.hid hwl
                         have HWN := Lib.hid hWn
                         clear hwk hwl hWn hWk hW
                         refine lwp_loop (fun k : Nat => ⟨[(279, i64 k), (278, i64 AL.length), (277, .sl 13 AL.length), (31, .sl 14 (W k).length), (30, .ptr 12 0 0 0), (272, i64 j), (271, i64 S.length), (270, .sl 11 S.length), (3, .ptr 7 0 0 0), (4, .ptr 8 0 0 0), (7, .sl 10 AL.length), (8, i64 n0)], [(2, .ro m.length 2 (thC m)), (3, .ro s.length 2 (thC s)), (7, .blk 25 [.sl 2 m.length, .sl 3 s.length]), (8, .blk 27 [i64 c.missed, i64 c.unseen, i64 c.stretch]), (10, .row 75 AL.length 2 (prC AL)), (11, .row 75 S.length 2 (prC S)), (12, .blk 75 [i64 p.1, i64 p.2]), (13, .row 76 AL.length 2 (prC AL)), (14, .row 76 (W k).length 2 (prC (W k)))], 15⟩) (fun k => k ≤ AL.length) (fun k => AL.length - k) 0 ⟨?_, sub_intro hm [(2, some 2), (3, some 3), (7, some 7), (8, some 8), (10, some 10), (11, some 11), (12, some 12), (13, some 14), (14, none)] rfl ?_⟩ ?_
                         ·exact Nat.zero_le _
                         ·rw [hw0]
                          exact sd
                         ·rintro k hk
                          have e4 : (k : Int).toNat = k := Int.toNat_natCast k
                          repeat first | refine lwp_seq fun K hK => ?_ | (with_reducible refine gA ?_; apply_assumption -exfalso -symm) | refine Stp.h ?_ | refine gF rfl ?_ | refine gG rfl ?_ | refine gM hC rfl sd ?_
                          refine lwp_condS hC rfl sd ?_ ?_ <;> intro hb
                          ·have hkl : k < AL.length := by omega
                           have hwk := HWK.out k hkl
                           have hwl := HWL.out k
                           repeat first | refine lwp_seq fun K hK => ?_ | (with_reducible refine gA ?_; apply_assumption -exfalso -symm) | refine Stp.h ?_ | refine gF rfl ?_ | refine gG rfl ?_ | refine gM hC rfl sd ?_
                           simp only [e4]
                           obtain ⟨x, hx⟩ : ∃ x, AL.getD k (0, 0) = x := ⟨_, rfl⟩
                           rw [hx] at hwk ⊢
                           have HWX := Lib.hid hwk
                           clear hwk hx
                           repeat first | refine lwp_seq fun K hK => ?_ | (with_reducible refine gA ?_; apply_assumption -exfalso -symm) | refine Stp.h ?_ | refine gF rfl ?_ | refine gG rfl ?_ | refine gM hC rfl sd ?_
                           (refine lwp_region hC ⟨[], [(2, custRPair)], []⟩ ⟨(fun p hp => by rcases List.mem_cons.1 hp with rfl | hp; rw [hP]; exact custRPair_ok; cases hp), (fun _ h => (by cases h))⟩ rfl ?_ ?_; rotate_left 1)
                           ·repeat first | refine lwp_seq fun K hK => ?_ | (with_reducible refine gA ?_; apply_assumption -exfalso -symm) | refine Stp.h ?_ | refine gF rfl ?_ | refine gG rfl ?_ | refine gM hC rfl sd ?_
                            refine lwp_condS hC rfl sd ?_ ?_ <;> intro hb
                            ·have hne : ¬ x = p := fun e => by
                              subst e
                              simp at hb
                             have g : W (k + 1) = W k ++ [x] := by rw [HWX.out, if_neg hne]
                             repeat first | refine lwp_seq fun K hK => ?_ | (with_reducible refine gA ?_; apply_assumption -exfalso -symm) | refine Stp.h ?_ | refine gF rfl ?_ | refine gG rfl ?_ | refine gM hC rfl sd ?_
                             refine gA ⟨k + 1, ?_, ?_, sub_intro hm [(2, some 2), (3, some 3), (7, some 7), (8, some 8), (10, some 10), (11, some 11), (12, some 12), (13, some 13), (14, some 18)] rfl ?_⟩
                             ·omega
                             ·omega
                             ·have e := prC_snoc (W k) x
                              rw [← g] at e
                              have e5 : (prC (W (k + 1))).cells = (catC (prC (W k)) (Cont.exp [.lit (.int .i64 x.1), .lit (.int .i64 x.2)])).cells := by
                               rw [catC_cells, e]; rfl
                              have e6 : (W (k + 1)).length = (W k).length + 1 := by rw [g]; simp
                              rw [e6]
                              exact sd
                            ·have heq : x = p := by
                              simp only [Bool.not_eq_true, Bool.not_eq_false', Bool.and_eq_true, beq_iff_eq] at hb
                              exact Prod.ext hb.1 hb.2
                             have g : W (k + 1) = W k := by rw [HWX.out, if_pos heq]
                             repeat first | refine lwp_seq fun K hK => ?_ | (with_reducible refine gA ?_; apply_assumption -exfalso -symm) | refine Stp.h ?_ | refine gF rfl ?_ | refine gG rfl ?_ | refine gM hC rfl sd ?_
                             refine gA ⟨k + 1, ?_, ?_, sub_intro hm [(2, some 2), (3, some 3), (7, some 7), (8, some 8), (10, some 10), (11, some 11), (12, some 12), (13, some 13), (14, some 14)] rfl ?_⟩
                             ·omega
                             ·omega
                             ·rw [g]
                              exact sd
                           ·exact sd
                          ·obtain rfl : k = AL.length := by omega
                           have hwl := HWL.out AL.length
                           rw [HWN.out] at hwl ⊢
                           obtain ⟨s1, s2, s3⟩ := HSW.out
                           repeat first | refine lwp_seq fun K hK => ?_ | (with_reducible refine gA ?_; apply_assumption -exfalso -symm) | refine Stp.h ?_ | refine gF rfl ?_ | refine gG rfl ?_ | refine gM hC rfl sd ?_
                           (refine lwp_drawn hC (by rw [hP]; exact mixed) ⟨[], [], [(1, Own_i m s [(0, some 2), (1, some 3)]), (4, Given_i (without p AL) [(0, some 14)]), (5, Cost_i m s c (without p AL) [(0, some 15), (1, some 16), (2, some 17)])]⟩ (told1 _ (by rw [hP]; exact (calls_cons (Own_s _ _ _ hm' hs') (calls_cons (Given_s _ _ (by omega)) (calls_cons (Cost_s _ _ _ _ _ hm' hs' (by omega)) calls_nil))))) [0, 1, 0, 0, 11, 31, 63, 127, 127, 255, 1023] 10 rfl ?_ ?_; rotate_left 1)
                           ·rw [s1]
                            repeat first | refine lwp_seq fun K hK => ?_ | (with_reducible refine gA ?_; apply_assumption -exfalso -symm) | refine Stp.h ?_ | refine gF rfl ?_ | refine gG rfl ?_ | refine gM hC rfl sd ?_
                            refine lwp_condS hC rfl sd ?_ ?_ <;> intro hb
                            ·exfalso
                             simp at hb
                             omega
                            ·clear hb
                             repeat first | refine lwp_seq fun K hK => ?_ | (with_reducible refine gA ?_; apply_assumption -exfalso -symm) | refine Stp.h ?_ | refine gF rfl ?_ | refine gG rfl ?_ | refine gM hC rfl sd ?_
                             refine gA ⟨j + 1, ?_, ?_, sub_intro hm [(2, some 2), (3, some 3), (7, some 7), (8, some 8), (10, some 10), (11, some 11)] rfl ?_⟩
                             ·omega
                             ·omega
                             ·exact sd
                           ·exact sd
                        ·exact sd
                       ·obtain rfl : j = S.length := by omega
                        repeat first | refine lwp_seq fun K hK => ?_ | (with_reducible refine gA ?_; apply_assumption -exfalso -symm) | refine Stp.h ?_ | refine gF rfl ?_ | refine gG rfl ?_ | refine gM hC rfl sd ?_
                        (refine end_intro (by first | exact .inr rfl | exact .inl rfl) [] rfl ?_)
                        exact ⟨rfl, trivial⟩
                    ·exact sd
              ·have e1 := HPP.out.cs
               exact sd
             ·exact sd
            ·exact sd
           ·exact sd
          ·exact sd
        ·simp [AllL, All, cd_p, cp_p, cv_p, *] <;> first | omega | (intro h9; simp [h9] at *)
       ·(refine lwp_region hC ⟨[(7, { b := some false }), (12, { b := some false }), (18, { b := some false }), (24, { b := some false }), (29, { b := some false }), (35, { b := some false })], [], [(0, Awake_i), (4, Short_i m s [(0, some 2), (1, some 3)]), (9, RRide_i m s [(0, some 2), (1, some 3)]), (26, RCosts_i c.missed c.unseen c.stretch), (32, ShortP_i l [(0, some 4)]), (38, ShT_i n R [(0, some 5), (1, some 6)])]⟩ (told1 _ (by rw [hP]; exact (calls_cons (Awake_s) (calls_cons (Short_s _ _ _ hmm hss) (calls_cons (RRide_s _ _ _ hm' hs' km ks) (calls_cons (RCosts_s _ _ _) (calls_cons (ShortP_s _ _ hll) (calls_cons (ShT_s _ _ _ hnn) calls_nil)))))))) rfl ?_ ?_; rotate_left 1)
        ·refine gA (hE _ (sub_intro hm [(0, some 0), (1, some 1)] rfl ?_))
         first | exact sd | (simp [AllL, All, cd_p, cp_p, cv_p, *]; done)
        ·simp [AllL, All, cd_p, cp_p, cv_p, *] <;> first | omega | (intro h9; simp [h9] at *)
      ·(refine lwp_region hC ⟨[(7, { b := some false }), (12, { b := some false }), (18, { b := some false }), (24, { b := some false }), (29, { b := some false }), (35, { b := some true }), (36, { g := some false }), (37, { g := some false }), (38, { g := some false }), (39, { g := some false })], [], [(0, Awake_i), (4, Short_i m s [(0, some 2), (1, some 3)]), (9, RRide_i m s [(0, some 2), (1, some 3)]), (26, RCosts_i c.missed c.unseen c.stretch), (32, ShortP_i l [(0, some 4)])]⟩ (told1 _ (by rw [hP]; exact (calls_cons (Awake_s) (calls_cons (Short_s _ _ _ hmm hss) (calls_cons (RRide_s _ _ _ hm' hs' km ks) (calls_cons (RCosts_s _ _ _) (calls_cons (ShortP_s _ _ hll) calls_nil))))))) rfl ?_ ?_; rotate_left 1)
       ·refine gA (hE _ (sub_intro hm [(0, some 0), (1, some 1)] rfl ?_))
        first | exact sd | (simp [AllL, All, cd_p, cp_p, cv_p, *]; done)
       ·simp [AllL, All, cd_p, cp_p, cv_p, *] <;> first | omega | (intro h9; simp [h9] at *)
     ·(refine lwp_region hC ⟨[(7, { b := some false }), (12, { b := some false }), (18, { b := some false }), (24, { b := some false }), (29, { b := some true }), (30, { g := some false }), (31, { g := some false }), (32, { g := some false }), (33, { g := some false }), (36, { g := some false }), (37, { g := some false }), (38, { g := some false }), (39, { g := some false })], [], [(0, Awake_i), (4, Short_i m s [(0, some 2), (1, some 3)]), (9, RRide_i m s [(0, some 2), (1, some 3)]), (26, RCosts_i c.missed c.unseen c.stretch)]⟩ (told1 _ (by rw [hP]; exact (calls_cons (Awake_s) (calls_cons (Short_s _ _ _ hmm hss) (calls_cons (RRide_s _ _ _ hm' hs' km ks) (calls_cons (RCosts_s _ _ _) calls_nil)))))) rfl ?_ ?_; rotate_left 1)
      ·refine gA (hE _ (sub_intro hm [(0, some 0), (1, some 1)] rfl ?_))
       first | exact sd | (simp [AllL, All, cd_p, cp_p, cv_p, *]; done)
      ·simp [AllL, All, cd_p, cp_p, cv_p, *] <;> first | omega | (intro h9; simp [h9] at *)
  ·(refine lwp_region hC ⟨[(7, { b := some false }), (12, { b := some true }), (13, { g := some false }), (14, { g := some false }), (15, { g := some false }), (16, { g := some false }), (19, { g := some false }), (20, { g := some false }), (21, { g := some false }), (22, { g := some false }), (25, { g := some false }), (26, { g := some false }), (27, { g := some false }), (30, { g := some false }), (31, { g := some false }), (32, { g := some false }), (33, { g := some false }), (36, { g := some false }), (37, { g := some false }), (38, { g := some false }), (39, { g := some false })], [], [(0, Awake_i), (4, Short_i m s [(0, some 2), (1, some 3)]), (9, RRide_i m s [(0, some 2), (1, some 3)])]⟩ (told1 _ (by rw [hP]; exact (calls_cons (Awake_s) (calls_cons (Short_s _ _ _ hmm hss) (calls_cons (RRide_s _ _ _ hm' hs' km ks) calls_nil))))) rfl ?_ ?_; rotate_left 1)
   ·refine gA (hE _ (sub_intro hm [(0, some 0), (1, some 1)] rfl ?_))
    first | exact sd | (simp [AllL, All, cd_p, cp_p, cv_p, *]; done)
   ·simp [AllL, All, cd_p, cp_p, cv_p, *] <;> first | omega | (intro h9; simp [h9] at *)
 ·(refine lwp_region hC ⟨[(7, { b := some true }), (8, { g := some false }), (9, { g := some false }), (10, { g := some false }), (13, { g := some false }), (14, { g := some false }), (15, { g := some false }), (16, { g := some false }), (19, { g := some false }), (20, { g := some false }), (21, { g := some false }), (22, { g := some false }), (25, { g := some false }), (26, { g := some false }), (27, { g := some false }), (30, { g := some false }), (31, { g := some false }), (32, { g := some false }), (33, { g := some false }), (36, { g := some false }), (37, { g := some false }), (38, { g := some false }), (39, { g := some false })], [], [(0, Awake_i), (4, Short_i m s [(0, some 2), (1, some 3)])]⟩ (told1 _ (by rw [hP]; exact (calls_cons (Awake_s) (calls_cons (Short_s _ _ _ hmm hss) calls_nil)))) rfl ?_ ?_; rotate_left 1)
  ·refine gA (hE _ (sub_intro hm [(0, some 0), (1, some 1)] rfl ?_))
   first | exact sd | (simp [AllL, All, cd_p, cp_p, cv_p, *]; done)
  ·simp [AllL, All, cd_p, cp_p, cv_p, *] <;> first | omega | (intro h9; simp [h9] at *)

end Go.Proofs.YtfmnfagcbehmdaaGreatDoor
