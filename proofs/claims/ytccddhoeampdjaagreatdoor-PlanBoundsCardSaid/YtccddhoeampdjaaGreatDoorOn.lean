/- PlanBounds: the reference's bound as a run, and the law. -/
import Derived.Test.YtccddhoeampdjaaGreatDoorOm
set_option linter.unusedVariables false
set_option linter.unusedSimpArgs false
namespace Go.Proofs.YtccddhoeampdjaaGreatDoor
open Go.RowKit Go.Sym

def LRat_i (l : List Z2) (σ : Ren) : Inst := { f := 38, hin := [(0, .ro l.length 2 (z2C l))], args := [.sl 0 l.length], hout := [(1, .row 82 l.length 2 (z2C l))], ret := .sl 1 l.length, σ := σ }
theorem LRat_s (l : List Z2) (σ : Ren) (hl : l.length ≤ 1000000) : (LRat_i l σ).ok Tryz.prog := by
  have hone : ∀ q, q < l.length * 2 → ((z2V (l.getD (q / 2) z2D)).getD (q % 2) undef).oneCell' = true := by
    intro q _
    have : q % 2 = 0 ∨ q % 2 = 1 := by omega
    rcases this with h | h <;> rw [h] <;> rfl
  unfold LRat_i Inst.ok; dsimp only; refine spec_of_body (tys := tys) 1 Tryz.func38 (by kernel_rfl) rfl tys_ok rfl (Nat.le_of_ble_eq_true rfl) (fun _ _ h => (by cases h)) fun F hP hm hC hrd => ?_; conv => whnf
  repeat first | refine lwp_seq fun K hK => ?_ | (with_reducible refine gA ?_; apply_assumption -exfalso -symm) | refine Stp.h ?_ | refine gF rfl ?_ | refine gG rfl ?_ | refine gM hC rfl ⟨⟩ ?_
  (refine lwp_region hC ⟨[], [], []⟩ (told0 _ _) rfl ?_ ?_; rotate_left 1)
  · repeat first | refine lwp_seq fun K hK => ?_ | (with_reducible refine gA ?_; apply_assumption -exfalso -symm) | refine Stp.h ?_ | refine gF rfl ?_ | refine gG rfl ?_ | refine gM hC rfl sd ?_
    (refine end_intro (by first | exact .inr rfl | exact .inl rfl) [(1, some 2)] rfl ?_)
    exact sd
  · exact sd
def rbE (T : List Shf) (l : List Z2) : Int := if (l.length : Int) ≠ T.length then 2 else firstS [firstS (pricesL l), whenS (l.any bigB) 4]
theorem rbE_eq {S : List Sec} {T : List Shf} {l : List Z2} (h : offE S T = 0) : bndE S T l = rbE T l := by
  unfold bndE rbE
  rw [h]
  by_cases h1 : (l.length : Int) ≠ T.length
  · rw [decide_eq_true h1, if_pos h1]; rfl
  · rw [decide_eq_false h1, if_neg h1]; simp only [firstS, whenS, Bool.false_eq_true, if_false, if_true]
theorem pricesL_drop (l : List Z2) (k : Nat) (h : k < l.length) : firstS ((pricesL l).drop k) = if priceS (l.getD k z2D).x (l.getD k z2D).y = 0 then firstS ((pricesL l).drop (k + 1)) else priceS (l.getD k z2D).x (l.getD k z2D).y := by
  rw [List.drop_eq_getElem_cons (by rw [pricesL_len]; exact h)]
  simp only [firstS, pricesL, List.getElem_map, priceOf, List.getD_eq_getElem?_getD, List.getElem?_eq_getElem h, Option.getD_some]
theorem any_ofZ {l : List Z2} (h : ∀ k, k < l.length → bigB (l.getD k z2D) = false) : l.any bigB = false := by
  rw [List.any_eq_false]
  intro x hx
  obtain ⟨i, hi, rfl⟩ := List.mem_iff_getElem.1 hx
  have := h i hi
  rw [List.getD_eq_getElem?_getD, List.getElem?_eq_getElem hi] at this
  simpa using this
theorem any_hitZ {l : List Z2} {k : Nat} (hk : k < l.length) (h : bigB (l.getD k z2D) = true) : l.any bigB = true := by
  rw [List.getD_eq_getElem?_getD, List.getElem?_eq_getElem hk] at h
  exact List.any_eq_true.2 ⟨_, List.getElem_mem hk, h⟩
def RBnd_i (S : List Sec) (T : List Shf) (l : List Z2) (σ : Ren) : Inst := { f := 39, hin := bndIn S T l, args := [ofA S T, .sl 2 l.length], hout := [], ret := .tup [i64 (bndS S T l).1, i64 (bndS S T l).2], σ := σ }
set_option maxRecDepth 20000 in
set_option maxHeartbeats 4000000 in
theorem RBnd_s (S : List Sec) (T : List Shf) (l : List Z2) (σ : Ren) (h0 : offE S T = 0) (hl : l.length ≤ 1000000) : (RBnd_i S T l σ).ok Tryz.prog := by
  have eE := rbE_eq (l := l) h0
  have hB0 := offB h0
  have hT5 := hB0.lT
  have hS7 := hB0.lS
  have EE := Lib.hid eE
  clear eE h0 hB0
  unfold RBnd_i Inst.ok; dsimp only; refine spec_of_body (tys := tys) 3 Tryz.func39 (by kernel_rfl) rfl tys_ok rfl (Nat.le_of_ble_eq_true rfl) (fun _ _ h => (by cases h)) fun F hP hm hC hrd => ?_; conv => whnf
  repeat first | refine lwp_seq fun K hK => ?_ | (with_reducible refine gA ?_; apply_assumption -exfalso -symm) | refine Stp.h ?_ | refine gF rfl ?_ | refine gG rfl ?_ | refine gM hC rfl sd ?_
  refine lwp_condS hC rfl sd ?_ ?_ <;> intro hb
  · have e1 : bndE S T l = 2 := by rw [EE.out]; exact if_pos hb
    have e : bndS S T l = (0, 2) := by unfold bndS; rw [e1, if_neg (by decide)]
    repeat first | refine lwp_seq fun K hK => ?_ | (with_reducible refine gA ?_; apply_assumption -exfalso -symm) | refine Stp.h ?_ | refine gF rfl ?_ | refine gG rfl ?_ | refine gM hC rfl sd ?_
    (refine end_intro (by first | exact .inr rfl | exact .inl rfl) [] rfl ?_)
    rw [e]
    exact ⟨rfl, rfl, trivial⟩
  · have e1 : bndE S T l = firstS [firstS (pricesL l), whenS (l.any bigB) 4] := by rw [EE.out]; exact if_neg (by omega)
    have hlen : l.length = T.length := by omega
    have E1 := Lib.hid e1
    clear hb e1 EE
    repeat first | refine lwp_seq fun K hK => ?_ | (with_reducible refine gA ?_; apply_assumption -exfalso -symm) | refine Stp.h ?_ | refine gF rfl ?_ | refine gG rfl ?_ | refine gM hC rfl sd ?_
    refine lwp_loop (fun k : Nat => ⟨[(6, i64 k), (1, .sl 2 l.length), (2, .ptr 3 0 0 0)], [(3, .blk 25 [.sl 0 S.length, .sl 1 T.length]), (0, .ro S.length 5 (secC S)), (1, .ro T.length 4 (shfC T)), (2, .ro l.length 2 (z2C l))], 4⟩) (fun k => k ≤ l.length ∧ firstS (pricesL l) = firstS ((pricesL l).drop k)) (fun k => l.length - k) 0 ⟨?_, sub_intro hm [(0, some 0), (1, some 1), (2, some 2), (3, some 3)] rfl ?_⟩ ?_
    · exact ⟨Nat.zero_le _, rfl⟩
    · exact sd
    · rintro k ⟨hk, hf⟩
      have hkk : ((k : Int)).toNat = k := Int.toNat_natCast k
      have HF := Lib.hid hf
      clear hf
      repeat first | refine lwp_seq fun K hK => ?_ | (with_reducible refine gA ?_; apply_assumption -exfalso -symm) | refine Stp.h ?_ | refine gF rfl ?_ | refine gG rfl ?_ | refine gM hC rfl sd ?_
      refine lwp_condS hC rfl sd ?_ ?_ <;> intro hb
      · have hk2 : k < l.length := by omega
        repeat first | refine lwp_seq fun K hK => ?_ | (with_reducible refine gA ?_; apply_assumption -exfalso -symm) | refine Stp.h ?_ | refine gF rfl ?_ | refine gG rfl ?_ | refine gM hC rfl ⟨⟩ ?_
        (refine lwp_drawn hC (by rw [hP]; exact mixed) ⟨[], [], [(4, RRatio_i (l.getD k z2D).x (l.getD k z2D).y), (11, When_i (decide ((l.getD k z2D).x < 0)) 3), (13, First_i [ratS (l.getD k z2D).x (l.getD k z2D).y, whenS (decide ((l.getD k z2D).x < 0)) 3] [(0, some 4)])]⟩ (told1 _ (by rw [hP]; exact (calls_cons (RRatio_s _ _) (calls_cons (When_s _ _) (calls_cons (First_s _ _ (by simp)) calls_nil))))) [0, 0, 3, 7, 15, 0, 0, 96, 224, 480, 992, 2047, 4095, 8191, 16383] 11 rfl ?_ ?_; rotate_left 1)
        · repeat first | refine lwp_seq fun K hK => ?_ | (with_reducible refine gA ?_; apply_assumption -exfalso -symm) | refine Stp.h ?_ | refine gF rfl ?_ | refine gG rfl ?_ | refine gM hC rfl sd ?_
          refine lwp_condS hC rfl sd ?_ ?_ <;> intro hb
          · have hne : ¬ priceS (l.getD k z2D).x (l.getD k z2D).y = 0 := hb
            have hf := HF.out
            rw [pricesL_drop l k hk2, if_neg hne] at hf
            have e1 : bndE S T l = priceS (l.getD k z2D).x (l.getD k z2D).y := by rw [E1.out, first_two, hf, if_neg hne]
            have e : bndS S T l = (0, priceS (l.getD k z2D).x (l.getD k z2D).y) := by unfold bndS; rw [e1, if_neg hne]
            have HE := Lib.hid e
            clear hf HF E1 e1 e hne
            repeat first | refine lwp_seq fun K hK => ?_ | (with_reducible refine gA ?_; apply_assumption -exfalso -symm) | refine Stp.h ?_ | refine gF rfl ?_ | refine gG rfl ?_ | refine gM hC rfl sd ?_
            (refine end_intro (by first | exact .inr rfl | exact .inl rfl) [] rfl ?_)
            rw [HE.out]
            exact ⟨rfl, rfl, trivial⟩
          · have hf := HF.out
            rw [pricesL_drop l k hk2, if_pos (show priceS (l.getD k z2D).x (l.getD k z2D).y = 0 from hb)] at hf
            have HG := Lib.hid hf
            clear hf HF hb
            repeat first | refine lwp_seq fun K hK => ?_ | (with_reducible refine gA ?_; apply_assumption -exfalso -symm) | refine Stp.h ?_ | refine gF rfl ?_ | refine gG rfl ?_ | refine gM hC rfl sd ?_
            refine gA ⟨k + 1, ?_, ?_, sub_intro hm [(0, some 0), (1, some 1), (2, some 2), (3, some 3)] rfl ?_⟩
            · exact ⟨by omega, HG.out⟩
            · omega
            · exact sd
        · rw [hkk]
          exact sd
      · obtain rfl : k = l.length := by omega
        have hf := HF.out
        rw [List.drop_of_length_le (by rw [pricesL_len]; exact Nat.le_refl _)] at hf
        have hf : firstS (pricesL l) = 0 := hf
        have e1 : bndE S T l = whenS (l.any bigB) 4 := by rw [E1.out, first_two, if_pos hf]
        have E2 := Lib.hid e1
        clear hb hf HF E1 e1 hk hkk
        repeat first | refine lwp_seq fun K hK => ?_ | (with_reducible refine gA ?_; apply_assumption -exfalso -symm) | refine Stp.h ?_ | refine gF rfl ?_ | refine gG rfl ?_ | refine gM hC rfl sd ?_
        refine lwp_loop (fun k : Nat => ⟨[(9, i64 k), (1, .sl 2 l.length), (2, .ptr 3 0 0 0), (8, .ptr 4 0 0 0)], [(4, .blk 82 [i64 0, i64 1]), (3, .blk 25 [.sl 0 S.length, .sl 1 T.length]), (0, .ro S.length 5 (secC S)), (1, .ro T.length 4 (shfC T)), (2, .ro l.length 2 (z2C l))], 5⟩) (fun k => k ≤ l.length ∧ ∀ i, i < k → bigB (l.getD i z2D) = false) (fun k => l.length - k) 0 ⟨?_, sub_intro hm [(0, some 0), (1, some 1), (2, some 2), (3, some 3), (4, some 4)] rfl ?_⟩ ?_
        · exact ⟨Nat.zero_le _, fun i hi => absurd hi (Nat.not_lt_zero _)⟩
        · exact sd
        · rintro k ⟨hk, hf⟩
          have hkk : ((k : Int)).toNat = k := Int.toNat_natCast k
          have HF := Lib.hid hf
          clear hf
          repeat first | refine lwp_seq fun K hK => ?_ | (with_reducible refine gA ?_; apply_assumption -exfalso -symm) | refine Stp.h ?_ | refine gF rfl ?_ | refine gG rfl ?_ | refine gM hC rfl sd ?_
          refine lwp_condS hC rfl sd ?_ ?_ <;> intro hb
          · have hk2 : k < l.length := by omega
            repeat first | refine lwp_seq fun K hK => ?_ | (with_reducible refine gA ?_; apply_assumption -exfalso -symm) | refine Stp.h ?_ | refine gF rfl ?_ | refine gG rfl ?_ | refine gM hC rfl sd ?_
            rw [hkk]
            refine lwp_condS hC rfl sd ?_ ?_ <;> intro hb
            · have hbig : bigB (l.getD k z2D) = true := decide_eq_true hb
              have e1 : bndE S T l = 4 := by rw [E2.out, any_hitZ hk2 hbig]; rfl
              have e : bndS S T l = (0, 4) := by unfold bndS; rw [e1, if_neg (by decide)]
              have HE := Lib.hid e
              clear HF E2 e1 e
              repeat first | refine lwp_seq fun K hK => ?_ | (with_reducible refine gA ?_; apply_assumption -exfalso -symm) | refine Stp.h ?_ | refine gF rfl ?_ | refine gG rfl ?_ | refine gM hC rfl sd ?_
              (refine end_intro (by first | exact .inr rfl | exact .inl rfl) [] rfl ?_)
              rw [HE.out]
              exact ⟨rfl, rfl, trivial⟩
            · have hG := HF.out
              have HG := Lib.hid (show ∀ i, i < k + 1 → bigB (l.getD i z2D) = false from fun i hi => by
                by_cases e : i = k
                · subst e; exact decide_eq_false hb
                · exact hG i (by omega))
              clear hb hG HF
              repeat first | refine lwp_seq fun K hK => ?_ | (with_reducible refine gA ?_; apply_assumption -exfalso -symm) | refine Stp.h ?_ | refine gF rfl ?_ | refine gG rfl ?_ | refine gM hC rfl sd ?_
              refine gA ⟨k + 1, ?_, ?_, sub_intro hm [(0, some 0), (1, some 1), (2, some 2), (3, some 3), (4, some 4)] rfl ?_⟩
              · exact ⟨by omega, HG.out⟩
              · omega
              · exact sd
          · obtain rfl : k = l.length := by omega
            have e1 : bndE S T l = 0 := by rw [E2.out, any_ofZ HF.out]; rfl
            have e : bndS S T l = (bndT S T l / 27720, 0) := if_pos e1
            have hKb := bndB e1
            have HK := Lib.hid hKb
            have HE := Lib.hid e
            clear hb HF E2 e1 e hKb hk hkk
            repeat first | refine lwp_seq fun K hK => ?_ | (with_reducible refine gA ?_; apply_assumption -exfalso -symm) | refine Stp.h ?_ | refine gF rfl ?_ | refine gG rfl ?_ | refine gM hC rfl sd ?_
            refine lwp_loop (fun k : Nat => ⟨[(10, i64 k), (1, .sl 2 l.length), (2, .ptr 3 0 0 0), (8, .ptr 4 0 0 0)], [(4, .blk 82 [i64 (sumR T l k).1, i64 (sumR T l k).2]), (3, .blk 25 [.sl 0 S.length, .sl 1 T.length]), (0, .ro S.length 5 (secC S)), (1, .ro T.length 4 (shfC T)), (2, .ro l.length 2 (z2C l))], 5⟩) (fun k => k ≤ l.length) (fun k => l.length - k) 0 ⟨?_, sub_intro hm [(0, some 0), (1, some 1), (2, some 2), (3, some 3), (4, some 4)] rfl ?_⟩ ?_
            · exact Nat.zero_le _
            · have e2 : (sumR T l 0).1 = 0 := rfl
              have e3 : ((sumR T l 0).2 : Int) = 1 := rfl
              rw [e2, e3]
              exact sd
            · rintro k hk
              have hkk : ((k : Int)).toNat = k := Int.toNat_natCast k
              repeat first | refine lwp_seq fun K hK => ?_ | (with_reducible refine gA ?_; apply_assumption -exfalso -symm) | refine Stp.h ?_ | refine gF rfl ?_ | refine gG rfl ?_ | refine gM hC rfl sd ?_
              refine lwp_condS hC rfl sd ?_ ?_ <;> intro hb
              · have hk2 : k < l.length := by omega
                obtain ⟨_, _, s3, _, s5⟩ := sumR_ok HK.out k hk
                obtain ⟨y1, _, y3, y4⟩ := yNat HK.out hk2
                have hx := (HK.out.pr k hk2).hx
                have hh := HK.out.B.hr k
                have m1 := Int.mul_nonneg hx.1 hh.1
                have m2 := Int.mul_le_mul hx.2 hh.2 hh.1 (by decide)
                have hPl := RPlus_s (sumR T l k).1 (sumR T l k).2 ((l.getD k z2D).x * (T.getD k shfD).hr) (l.getD k z2D).y.toNat s5 s3 ⟨m1, by omega⟩ ⟨y3, y4⟩
                unfold RPlus_i at hPl
                rw [y1] at hPl
                repeat first | refine lwp_seq fun K hK => ?_ | (with_reducible refine gA ?_; apply_assumption -exfalso -symm) | refine Stp.h ?_ | refine gF rfl ?_ | refine gG rfl ?_ | refine gM hC rfl ⟨⟩ ?_
                (refine lwp_drawn2 hC (by rw [hP]; exact mixed) ⟨[], [], [(19, { f := 107, hin := [], args := [.agg [i64 (sumR T l k).1, i64 (sumR T l k).2], .agg [i64 ((l.getD k z2D).x * (T.getD k shfD).hr), i64 (l.getD k z2D).y]], hout := [], ret := .agg [i64 (plN (sumR T l k).1 (sumR T l k).2 ((l.getD k z2D).x * (T.getD k shfD).hr) (l.getD k z2D).y.toNat), i64 (plD (sumR T l k).2 (l.getD k z2D).y.toNat)], σ := [] })]⟩ (told1 _ (by rw [hP]; exact (calls_cons (hPl) calls_nil))) [0, 0, 0, 6, 14, 30, 0, 64, 0, 448, 960, 1984, 4094, 0, 0, 24576, 57344, 122880, 262142, 524287, 1048575] 20 0 rfl ?_ ?_; rotate_left 1)
                · repeat first | refine lwp_seq fun K hK => ?_ | (with_reducible refine gA ?_; apply_assumption -exfalso -symm) | refine Stp.h ?_ | refine gF rfl ?_ | refine gG rfl ?_ | refine gM hC rfl sd ?_
                  refine gA ⟨k + 1, ?_, ?_, sub_intro hm [(0, some 0), (1, some 1), (2, some 2), (3, some 3), (4, some 4)] rfl ?_⟩
                  · omega
                  · omega
                  · have e2 : (sumR T l (k + 1)).1 = plN (sumR T l k).1 (sumR T l k).2 ((l.getD k z2D).x * (T.getD k shfD).hr) (l.getD k z2D).y.toNat := rfl
                    have e3 : (sumR T l (k + 1)).2 = plD (sumR T l k).2 (l.getD k z2D).y.toNat := rfl
                    rw [e2, e3]
                    exact sd
                · rw [hkk]
                  clear hPl
                  exact sd
              · obtain rfl : k = l.length := by omega
                rw [hlen]
                clear hb hk hkk
                repeat first | refine lwp_seq fun K hK => ?_ | (with_reducible refine gA ?_; apply_assumption -exfalso -symm) | refine Stp.h ?_ | refine gF rfl ?_ | refine gG rfl ?_ | refine gM hC rfl sd ?_
                refine lwp_loop (fun i : Nat => ⟨[(11, i64 i), (1, .sl 2 l.length), (2, .ptr 3 0 0 0), (8, .ptr 4 0 0 0)], [(4, .blk 82 [i64 (totR S T l i).1, i64 (totR S T l i).2]), (3, .blk 25 [.sl 0 S.length, .sl 1 T.length]), (0, .ro S.length 5 (secC S)), (1, .ro T.length 4 (shfC T)), (2, .ro l.length 2 (z2C l))], 5⟩) (fun i => i ≤ S.length) (fun i => S.length - i) 0 ⟨?_, sub_intro hm [(0, some 0), (1, some 1), (2, some 2), (3, some 3), (4, some 4)] rfl ?_⟩ ?_
                · exact Nat.zero_le _
                · have e2 : totR S T l 0 = sumR T l T.length := rfl
                  rw [e2]
                  exact sd
                · rintro i hi
                  have hii : ((i : Int)).toNat = i := Int.toNat_natCast i
                  repeat first | refine lwp_seq fun K hK => ?_ | (with_reducible refine gA ?_; apply_assumption -exfalso -symm) | refine Stp.h ?_ | refine gF rfl ?_ | refine gG rfl ?_ | refine gM hC rfl sd ?_
                  refine lwp_condS hC rfl sd ?_ ?_ <;> intro hb
                  · have hi2 : i < S.length := by omega
                    repeat first | refine lwp_seq fun K hK => ?_ | (with_reducible refine gA ?_; apply_assumption -exfalso -symm) | refine Stp.h ?_ | refine gF rfl ?_ | refine gG rfl ?_ | refine gM hC rfl sd ?_
                    rw [hii]
                    refine lwp_loop (fun k : Nat => ⟨[(14, i64 k), (11, i64 i), (1, .sl 2 l.length), (2, .ptr 3 0 0 0), (8, .ptr 4 0 0 0), (12, .ptr 5 0 0 0), (13, .ptr 6 0 0 0)], [(6, .blk 82 [i64 (mostR S T l i k).1, i64 (mostR S T l i k).2]), (5, .blk 130 [.lit (.string (S.getD i secD).name), i64 (S.getD i secD).dl, i64 (S.getD i secD).wk, i64 (S.getD i secD).bl, i64 (S.getD i secD).vl]), (4, .blk 82 [i64 (totR S T l i).1, i64 (totR S T l i).2]), (3, .blk 25 [.sl 0 S.length, .sl 1 T.length]), (0, .ro S.length 5 (secC S)), (1, .ro T.length 4 (shfC T)), (2, .ro l.length 2 (z2C l))], 7⟩) (fun k => k ≤ l.length) (fun k => l.length - k) 0 ⟨?_, sub_intro hm [(0, some 0), (1, some 1), (2, some 2), (3, some 3), (4, some 4), (5, some 5), (6, some 6)] rfl ?_⟩ ?_
                    · exact Nat.zero_le _
                    · have e2 : (mostR S T l i 0).1 = 0 := rfl
                      have e3 : ((mostR S T l i 0).2 : Int) = 1 := rfl
                      rw [e2, e3]
                      exact sd
                    · rintro k hk
                      have hkk : ((k : Int)).toNat = k := Int.toNat_natCast k
                      repeat first | refine lwp_seq fun K hK => ?_ | (with_reducible refine gA ?_; apply_assumption -exfalso -symm) | refine Stp.h ?_ | refine gF rfl ?_ | refine gG rfl ?_ | refine gM hC rfl sd ?_
                      refine lwp_condS hC rfl sd ?_ ?_ <;> intro hb
                      · have hk2 : k < l.length := by omega
                        obtain ⟨_, _, p3, p4⟩ := mostR_ok HK.out i k hk
                        have hp := HK.out.pr k hk2
                        have hv := HK.out.B.vl i
                        have hw := HK.out.B.wk i
                        obtain ⟨y1, _, y3, y4⟩ := yNat HK.out hk2
                        have a1 := mul_in (x := (S.getD i secD).vl) (y := (l.getD k z2D).y) (A := 1000000) (B := 12) (by omega) (by have := hp.hy; omega)
                        have a2 := mul_in (x := (S.getD i secD).wk) (y := (l.getD k z2D).x) (A := 1000) (B := 999999999) (by omega) (by have := hp.hx; omega)
                        have a3 := mul_in (x := (S.getD i secD).vl * (l.getD k z2D).y - (S.getD i secD).wk * (l.getD k z2D).x) (y := ((mostR S T l i k).2 : Int)) (A := 1100000000000) (B := 12) (by omega) (by omega)
                        have a4 := mul_in (x := (mostR S T l i k).1) (y := (l.getD k z2D).y) (A := 12000000) (B := 12) (by omega) (by have := hp.hy; omega)
                        have hCc : (bif decide ((T.getD k shfD).day ≤ (S.getD i secD).dl) then decide (((S.getD i secD).vl * (l.getD k z2D).y - (S.getD i secD).wk * (l.getD k z2D).x) * ((mostR S T l i k).2 : Int) > (mostR S T l i k).1 * (l.getD k z2D).y) else false) = (inTimeB S T i k && decide (((S.getD i secD).vl * (l.getD k z2D).y - (S.getD i secD).wk * (l.getD k z2D).x) * (mostR S T l i k).2 > (mostR S T l i k).1 * (l.getD k z2D).y)) := by
                          unfold inTimeB
                          cases decide ((T.getD k shfD).day ≤ (S.getD i secD).dl) <;> rfl
                        clear hp
                        repeat first | refine lwp_seq fun K hK => ?_ | (with_reducible refine gA ?_; apply_assumption -exfalso -symm) | refine Stp.h ?_ | refine gF rfl ?_ | refine gG rfl ?_ | refine gM hC rfl ⟨⟩ ?_
                        (refine lwp_drawn2 hC (by rw [hP]; exact mixed) ⟨[], [], []⟩ (told0 _ _) [0, 1, 0, 0, 12, 28, 60, 127, 0, 256, 0, 0, 3072, 7168, 15360, 32512, 65535, 0, 0, 393216, 917504, 1966080, 4194303, 0, 16777215] 24 0 rfl ?_ ?_; rotate_left 1)
                        · rw [hkk]
                          repeat first | refine lwp_seq fun K hK => ?_ | (with_reducible refine gA ?_; apply_assumption -exfalso -symm) | refine Stp.h ?_ | refine gF rfl ?_ | refine gG rfl ?_ | refine gM hC rfl ⟨⟩ ?_
                          (refine lwp_drawn2 hC (by rw [hP]; exact mixed) ⟨[], [], []⟩ (told0 _ _) [0, 1, 0, 7, 15, 31, 0, 64, 255, 511, 1023, 2047, 1023, 5119, 16383, 1023, 33791, 1023, 132095, 492543, 1048575, 2097151] 22 0 rfl ?_ ?_; rotate_left 1)
                          · rw [hkk, hCc]
                            repeat first | refine lwp_seq fun K hK => ?_ | (with_reducible refine gA ?_; apply_assumption -exfalso -symm) | refine Stp.h ?_ | refine gF rfl ?_ | refine gG rfl ?_ | refine gM hC rfl ⟨⟩ ?_
                            refine lwp_condS hC rfl sd ?_ ?_ <;> intro hb
                            · have e2 : mostR S T l i (k + 1) = ((S.getD i secD).vl * (l.getD k z2D).y - (S.getD i secD).wk * (l.getD k z2D).x, (l.getD k z2D).y.toNat) := if_pos hb
                              clear hCc a3 a4
                              repeat first | refine lwp_seq fun K hK => ?_ | (with_reducible refine gA ?_; apply_assumption -exfalso -symm) | refine Stp.h ?_ | refine gF rfl ?_ | refine gG rfl ?_ | refine gM hC rfl sd ?_
                              refine gA ⟨k + 1, ?_, ?_, sub_intro hm [(0, some 0), (1, some 1), (2, some 2), (3, some 3), (4, some 4), (5, some 5), (6, some 6)] rfl ?_⟩
                              · omega
                              · omega
                              · rw [e2, y1]
                                clear a1 a2
                                exact sd
                            · have e2 : mostR S T l i (k + 1) = mostR S T l i k := if_neg (by rw [hb]; decide)
                              clear hCc a3 a4
                              repeat first | refine lwp_seq fun K hK => ?_ | (with_reducible refine gA ?_; apply_assumption -exfalso -symm) | refine Stp.h ?_ | refine gF rfl ?_ | refine gG rfl ?_ | refine gM hC rfl sd ?_
                              refine gA ⟨k + 1, ?_, ?_, sub_intro hm [(0, some 0), (1, some 1), (2, some 2), (3, some 3), (4, some 4), (5, some 5), (6, some 6)] rfl ?_⟩
                              · omega
                              · omega
                              · rw [e2]
                                exact sd
                          · rw [hkk]
                            clear hCc
                            exact sd
                        · rw [hkk]
                          clear hCc
                          exact sd
                      · obtain rfl : k = l.length := by omega
                        obtain ⟨_, _, s3, _, s5⟩ := totR_ok HK.out i hi
                        obtain ⟨_, _, p3, p4⟩ := mostR_ok HK.out i l.length (Nat.le_refl _)
                        clear hb hk hkk
                        repeat first | refine lwp_seq fun K hK => ?_ | (with_reducible refine gA ?_; apply_assumption -exfalso -symm) | refine Stp.h ?_ | refine gF rfl ?_ | refine gG rfl ?_ | refine gM hC rfl ⟨⟩ ?_
                        (refine lwp_region hC ⟨[], [], [(2, RPlus_i (totR S T l i).1 (totR S T l i).2 (mostR S T l i l.length).1 (mostR S T l i l.length).2)]⟩ (told1 _ (by rw [hP]; exact (calls_cons (RPlus_s _ _ _ _ s5 s3 ⟨p4.1, by omega⟩ p3) calls_nil))) rfl ?_ ?_; rotate_left 1)
                        · repeat first | refine lwp_seq fun K hK => ?_ | (with_reducible refine gA ?_; apply_assumption -exfalso -symm) | refine Stp.h ?_ | refine gF rfl ?_ | refine gG rfl ?_ | refine gM hC rfl sd ?_
                          refine gA ⟨i + 1, ?_, ?_, sub_intro hm [(0, some 0), (1, some 1), (2, some 2), (3, some 3), (4, some 4)] rfl ?_⟩
                          · omega
                          · omega
                          · have e2 : (totR S T l (i + 1)).1 = plN (totR S T l i).1 (totR S T l i).2 (mostR S T l i T.length).1 (mostR S T l i T.length).2 := rfl
                            have e3 : (totR S T l (i + 1)).2 = plD (totR S T l i).2 (mostR S T l i T.length).2 := rfl
                            rw [e2, e3, ← hlen]
                            exact sd
                        · exact sd
                  · obtain rfl : i = S.length := by omega
                    have hs := totR_ok HK.out S.length (Nat.le_refl _)
                    have hq : (totR S T l S.length).1 / ((totR S T l S.length).2 : Int) = bndT S T l / 27720 := by
                      have e4 := hs.e
                      have hd : 0 < ((totR S T l S.length).2 : Int) := by have := hs.p; omega
                      rw [← Int.mul_ediv_mul_of_pos_left _ _ (show (0 : Int) < 27720 by decide), e4]
                      unfold bndT
                      rw [Int.mul_comm _ (27720 : Int), Int.mul_ediv_mul_of_pos_left _ _ hd]
                    obtain ⟨_, _, s3, _, s5⟩ := hs
                    clear hb hi hii
                    repeat first | refine lwp_seq fun K hK => ?_ | (with_reducible refine gA ?_; apply_assumption -exfalso -symm) | refine Stp.h ?_ | refine gF rfl ?_ | refine gG rfl ?_ | refine gM hC rfl ⟨⟩ ?_
                    (refine lwp_region hC ⟨[], [], [(4, Floor_i (totR S T l S.length).1 (totR S T l S.length).2)]⟩ (told1 _ (by rw [hP]; exact (calls_cons (Floor_s _ _ (by omega) (by omega)) calls_nil))) rfl ?_ ?_; rotate_left 1)
                    · rw [hq]
                      repeat first | refine lwp_seq fun K hK => ?_ | (with_reducible refine gA ?_; apply_assumption -exfalso -symm) | refine Stp.h ?_ | refine gF rfl ?_ | refine gG rfl ?_ | refine gM hC rfl sd ?_
                      (refine end_intro (by first | exact .inr rfl | exact .inl rfl) [] rfl ?_)
                      rw [HE.out]
                      exact ⟨rfl, rfl, trivial⟩
                    · exact sd

def LawBo_i (S : List Sec) (T : List Shf) (l : List Z2) : Inst := { f := 5, gl := lawG, hin := [(0, pwC), (1, kdC), (2, .ro S.length 5 (secC S)), (3, .ro T.length 4 (shfC T)), (4, .ro l.length 2 (z2C l))], args := [.agg [.sl 2 S.length, .sl 3 T.length], .sl 4 l.length], hout := [], ret := bl true, σ := [] }
set_option maxRecDepth 20000 in
set_option maxHeartbeats 4000000 in
theorem LawBo_s (S : List Sec) (T : List Shf) (l : List Z2) (hS : S.length ≤ 9223372036854775807) (hT : T.length ≤ 9223372036854775807) (hll : l.length ≤ 9223372036854775807) : (LawBo_i S T l).ok Tryz.prog := by
  unfold LawBo_i Inst.ok; dsimp only; refine spec_of_body (tys := tys) 5 Tryz.func5 (by kernel_rfl) rfl tys_ok rfl (Nat.le_of_ble_eq_true rfl) (fun g i h => by simp only [List.mem_cons, List.not_mem_nil, or_false, Prod.mk.injEq] at h; omega) fun F hP hm hC hrd => ?_; conv => whnf
  repeat first | refine lwp_seq fun K hK => ?_ | (with_reducible refine gA ?_; apply_assumption -exfalso -symm) | refine Stp.h ?_ | refine gF rfl ?_ | refine gG rfl ?_ | refine gM hC rfl ⟨⟩ ?_
  by_cases c1 : shortO S T = true
  · by_cases c2 : (l.length : Int) > 8
    · (refine lwp_region hC ⟨[(3, { b := some false })], [], [(1, ShortO_i S T [(0, some 2), (1, some 3)])]⟩ (told1 _ (by rw [hP]; exact (calls_cons (ShortO_s _ _ _ hS hT) calls_nil))) rfl ?_ ?_; rotate_left 1)
      · repeat first | refine lwp_seq fun K hK => ?_ | (with_reducible refine gA ?_; apply_assumption -exfalso -symm) | refine Stp.h ?_ | refine gF rfl ?_ | refine gG rfl ?_ | refine gM hC rfl ⟨⟩ ?_
        refine lwp_condS hC rfl sd ?_ ?_ <;> intro hb
        · repeat first | refine lwp_seq fun K hK => ?_ | (with_reducible refine gA ?_; apply_assumption -exfalso -symm) | refine Stp.h ?_ | refine gF rfl ?_ | refine gG rfl ?_ | refine gM hC rfl ⟨⟩ ?_
          (refine lwp_region hC ⟨[], [], [(0, Awake_i)]⟩ (told1 _ (by rw [hP]; exact (calls_cons (Awake_s) calls_nil))) rfl ?_ ?_; rotate_left 1)
          · repeat first | refine lwp_seq fun K hK => ?_ | (with_reducible refine gA ?_; apply_assumption -exfalso -symm) | refine Stp.h ?_ | refine gF rfl ?_ | refine gG rfl ?_ | refine gM hC rfl sd ?_
            (refine end_intro (by first | exact .inr rfl | exact .inl rfl) [] rfl ?_)
            exact ⟨rfl, trivial⟩
          · exact sd
        · exfalso; simp_all <;> omega
      · simp [AllL, All, *]
    · obtain ⟨hN, s8, t6⟩ := shortO_len c1
      (refine lwp_region hC ⟨[(3, { b := some false })], [], [(1, ShortO_i S T [(0, some 2), (1, some 3)])]⟩ (told1 _ (by rw [hP]; exact (calls_cons (ShortO_s _ _ _ hS hT) calls_nil))) rfl ?_ ?_; rotate_left 1)
      · repeat first | refine lwp_seq fun K hK => ?_ | (with_reducible refine gA ?_; apply_assumption -exfalso -symm) | refine Stp.h ?_ | refine gF rfl ?_ | refine gG rfl ?_ | refine gM hC rfl ⟨⟩ ?_
        refine lwp_condS hC rfl sd ?_ ?_ <;> intro hb
        · exfalso; simp_all <;> omega
        · clear hb c1
          have HN := Lib.hid hN
          clear hN
          repeat first | refine lwp_seq fun K hK => ?_ | (with_reducible refine gA ?_; apply_assumption -exfalso -symm) | refine Stp.h ?_ | refine gF rfl ?_ | refine gG rfl ?_ | refine gM hC rfl ⟨⟩ ?_
          (refine lwp_region hC ⟨[], [], [(1, Own_i S T [(0, some 2), (1, some 3)]), (3, LRat_i l [(0, some 4)]), (4, Bnd_i S T l [(0, some 6), (1, some 7), (2, some 8)])]⟩ (told1 _ (by rw [hP]; exact (calls_cons (Own_s _ _ _ (by omega) (by omega)) (calls_cons (LRat_s _ _ (by omega)) (calls_cons (Bnd_s _ _ _ _ (by omega) (by omega) (by omega)) calls_nil))))) rfl ?_ ?_; rotate_left 1)
          · repeat first | refine lwp_seq fun K hK => ?_ | (with_reducible refine gA ?_; apply_assumption -exfalso -symm) | refine Stp.h ?_ | refine gF rfl ?_ | refine gG rfl ?_ | refine gM hC rfl ⟨⟩ ?_
            (refine lwp_region hC ⟨[], [], [(1, ROff_i S T [(0, some 2), (1, some 3)])]⟩ (told1 _ (by rw [hP]; exact (calls_cons (ROff_s _ _ _ (by omega) (by omega) HN.out) calls_nil))) rfl ?_ ?_; rotate_left 1)
            · repeat first | refine lwp_seq fun K hK => ?_ | (with_reducible refine gA ?_; apply_assumption -exfalso -symm) | refine Stp.h ?_ | refine gF rfl ?_ | refine gG rfl ?_ | refine gM hC rfl sd ?_
              refine lwp_condS hC rfl sd ?_ ?_ <;> intro hb
              · repeat first | refine lwp_seq fun K hK => ?_ | (with_reducible refine gA ?_; apply_assumption -exfalso -symm) | refine Stp.h ?_ | refine gF rfl ?_ | refine gG rfl ?_ | refine gM hC rfl sd ?_
                (refine lwp_region hC ⟨[], [], [(2, RBnd_i S T l [(0, some 2), (1, some 3), (2, some 4)])]⟩ (told1 _ (by rw [hP]; exact (calls_cons (RBnd_s _ _ _ _ hb (by omega)) calls_nil))) rfl ?_ ?_; rotate_left 1)
                · repeat first | refine lwp_seq fun K hK => ?_ | (with_reducible refine gA ?_; apply_assumption -exfalso -symm) | refine Stp.h ?_ | refine gF rfl ?_ | refine gG rfl ?_ | refine gM hC rfl ⟨⟩ ?_
                  (refine lwp_region hC ⟨[(3, { b := some true }), (8, { b := some true })], [], [(9, Awake_i)]⟩ (told1 _ (by rw [hP]; exact (calls_cons (Awake_s) calls_nil))) rfl ?_ ?_; rotate_left 1)
                  · repeat first | refine lwp_seq fun K hK => ?_ | (with_reducible refine gA ?_; apply_assumption -exfalso -symm) | refine Stp.h ?_ | refine gF rfl ?_ | refine gG rfl ?_ | refine gM hC rfl sd ?_
                    (refine end_intro (by first | exact .inr rfl | exact .inl rfl) [] rfl ?_)
                    exact ⟨rfl, trivial⟩
                  · simp [AllL, All]
                · exact sd
              · have e1 : bndE S T l = offE S T := by unfold bndE; simp only [firstS, if_neg hb]
                have e : bndS S T l = (0, offE S T) := by unfold bndS; rw [e1, if_neg hb]
                repeat first | refine lwp_seq fun K hK => ?_ | (with_reducible refine gA ?_; apply_assumption -exfalso -symm) | refine Stp.h ?_ | refine gF rfl ?_ | refine gG rfl ?_ | refine gM hC rfl ⟨⟩ ?_
                rw [e]
                (refine lwp_region hC ⟨[(3, { b := some true }), (8, { b := some true })], [], [(9, Awake_i)]⟩ (told1 _ (by rw [hP]; exact (calls_cons (Awake_s) calls_nil))) rfl ?_ ?_; rotate_left 1)
                · repeat first | refine lwp_seq fun K hK => ?_ | (with_reducible refine gA ?_; apply_assumption -exfalso -symm) | refine Stp.h ?_ | refine gF rfl ?_ | refine gG rfl ?_ | refine gM hC rfl sd ?_
                  (refine end_intro (by first | exact .inr rfl | exact .inl rfl) [] rfl ?_)
                  exact ⟨rfl, trivial⟩
                · simp [AllL, All]
            · exact sd
          · exact sd
      · simp [AllL, All, *]
  · (refine lwp_region hC ⟨[(3, { b := some true }), (4, { g := some false }), (5, { g := some false }), (6, { g := some false })], [], [(1, ShortO_i S T [(0, some 2), (1, some 3)])]⟩ (told1 _ (by rw [hP]; exact (calls_cons (ShortO_s _ _ _ hS hT) calls_nil))) rfl ?_ ?_; rotate_left 1)
    · repeat first | refine lwp_seq fun K hK => ?_ | (with_reducible refine gA ?_; apply_assumption -exfalso -symm) | refine Stp.h ?_ | refine gF rfl ?_ | refine gG rfl ?_ | refine gM hC rfl ⟨⟩ ?_
      refine lwp_condS hC rfl sd ?_ ?_ <;> intro hb
      · repeat first | refine lwp_seq fun K hK => ?_ | (with_reducible refine gA ?_; apply_assumption -exfalso -symm) | refine Stp.h ?_ | refine gF rfl ?_ | refine gG rfl ?_ | refine gM hC rfl ⟨⟩ ?_
        (refine lwp_region hC ⟨[], [], [(0, Awake_i)]⟩ (told1 _ (by rw [hP]; exact (calls_cons (Awake_s) calls_nil))) rfl ?_ ?_; rotate_left 1)
        · repeat first | refine lwp_seq fun K hK => ?_ | (with_reducible refine gA ?_; apply_assumption -exfalso -symm) | refine Stp.h ?_ | refine gF rfl ?_ | refine gG rfl ?_ | refine gM hC rfl sd ?_
          (refine end_intro (by first | exact .inr rfl | exact .inl rfl) [] rfl ?_)
          exact ⟨rfl, trivial⟩
        · exact sd
      · exact absurd hb (by decide)
    · simp [AllL, All, *]

end Go.Proofs.YtccddhoeampdjaaGreatDoor
