/- Chapter 5: Within, the program's. -/
import Derived.Test.YtoopgdchiljmiaaGreatDoorEc
set_option linter.unusedVariables false
set_option linter.unusedSimpArgs false
namespace Go.Proofs.YtoopgdchiljmiaaGreatDoor
open Go.RowKit Go.Sym

def withE (m s : List Th) (r b n : Int) (l : List (Int × Int)) : Int := firstS [checkPairsS m s l, slipS r b, withinS n 0 100000000, whenS (decide ((l.length : Int) = 0)) 12]
def withR (m s : List Th) (r b n : Int) (l : List (Int × Int)) : (Int × Int) × Int := if withE m s r b n l ≠ 0 then ((0, 0), withE m s r b n l) else withS m s r b n l
theorem withE_zero {m s : List Th} {r b n : Int} {l : List (Int × Int)} (h : withE m s r b n l = 0) : Good m s l ∧ slipS r b = 0 ∧ (0 ≤ n ∧ n ≤ 100000000) ∧ 0 < l.length := by
  unfold withE at h
  rw [firstS_cons, firstS_cons, firstS_cons, firstS_cons, withinS_zero, whenS_zero (by decide)] at h
  obtain ⟨h1, h2, h3, h4, _⟩ := h
  have := of_decide_eq_false h4
  exact ⟨good_of h1, h2, h3, by omega⟩
theorem interS_one {m s : List Th} {r b n : Int} {l : List (Int × Int)} : interS m s r b n l 1 = ivalS m s r b n (prAt l 0) := by
  unfold interS; rfl
theorem interS_more {m s : List Th} {r b n : Int} {l : List (Int × Int)} {k : Nat} (h : k ≠ 0) : interS m s r b n l (k + 1) = cutS (interS m s r b n l k) (ivalS m s r b n (prAt l k)) := by
  rw [interS, if_neg h]
def Within_i (m s : List Th) (r b n : Int) (l : List (Int × Int)) (σ : Ren) : Inst := { f := 64, hin := costIn m s l, args := [rdA m s, .sl 2 l.length, slA r b, i64 n], hout := [], ret := .tup [ivA (withR m s r b n l).1, i64 (withR m s r b n l).2], σ := σ }
set_option maxRecDepth 20000 in
set_option maxHeartbeats 4000000 in
theorem Within_s (m s : List Th) (r b n : Int) (l : List (Int × Int)) (σ : Ren) (hm' : m.length ≤ 1000000) (hs : s.length ≤ 1000000) (hl : l.length ≤ 1000000) : (Within_i m s r b n l σ).ok Tryz.prog := by
  unfold Within_i Inst.ok; dsimp only; refine spec_of_body (tys := tys) 3 Tryz.func64 (by kernel_rfl) rfl tys_ok rfl (Nat.le_of_ble_eq_true rfl) (fun _ _ h => (by cases h)) fun F hP hm hC hrd => ?_; conv => whnf
  repeat first | refine lwp_seq fun K hK => ?_ | ((with_reducible refine gA ?_); apply_assumption -exfalso -symm) | refine gB ?_ | refine gC ?_ | refine gD ?_ | refine gE ?_ | refine gF rfl ?_ | refine gG rfl ?_ | refine gH ?_ | refine gI ?_ | refine gJ ?_ | refine gK ?_ | refine gL ?_ | refine lwp_region hC ⟨[], [], []⟩ (told0 _ _) rfl ⟨⟩ ?_ | refine lwp_region hC ⟨[], [], []⟩ (told0 _ _) rfl (by exact sd) ?_
  (refine lwp_drawn hC (by rw [hP]; exact mixed) ⟨[], [], [(2, Pairs_i m s l [(0, some 0), (1, some 1), (2, some 2)]), (4, Slip_i r b), (6, Count_i n), (10, AWhen_i (decide ((l.length : Int) = 0)) 12), (12, AFirst_i [checkPairsS m s l, slipS r b, withinS n 0 100000000, whenS (decide ((l.length : Int) = 0)) 12] [(0, some 6)])]⟩ (told1 _ (by rw [hP]; exact (calls_cons (Pairs_s _ _ _ _ hm' hs hl) (calls_cons (Slip_s _ _) (calls_cons (Count_s _) (calls_cons (AWhen_s _ _) (calls_cons (AFirst_s _ _ (by simp)) calls_nil))))))) [0, 0, 3, 0, 15, 0, 63, 0, 128, 384, 1023, 2047, 4095, 8191] 10 rfl ?_ ?_; rotate_left 1)
  · repeat first | refine lwp_seq fun K hK => ?_ | ((with_reducible refine gA ?_); apply_assumption -exfalso -symm) | refine gB ?_ | refine gC ?_ | refine gD ?_ | refine gE ?_ | refine gF rfl ?_ | refine gG rfl ?_ | refine gH ?_ | refine gI ?_ | refine gJ ?_ | refine gK ?_ | refine gL ?_ | refine lwp_region hC ⟨[], [], []⟩ (told0 _ _) rfl ⟨⟩ ?_ | refine lwp_region hC ⟨[], [], []⟩ (told0 _ _) rfl (by exact sd) ?_
    (refine lwp_cond hC rfl (by first | exact ⟨⟩ | exact sd) (fun hb => ?_) (fun hb => ?_) <;> (try simp only [decide_eq_true_eq, decide_eq_false_iff_not, Bool.not_eq_true', Bool.not_eq_false', ne_eq, Decidable.not_not] at hb))
    · have hE : withR m s r b n l = ((0, 0), withE m s r b n l) := if_pos hb
      repeat first | refine lwp_seq fun K hK => ?_ | ((with_reducible refine gA ?_); apply_assumption -exfalso -symm) | refine gB ?_ | refine gC ?_ | refine gD ?_ | refine gE ?_ | refine gF rfl ?_ | refine gG rfl ?_ | refine gH ?_ | refine gI ?_ | refine gJ ?_ | refine gK ?_ | refine gL ?_ | refine lwp_region hC ⟨[], [], []⟩ (told0 _ _) rfl ⟨⟩ ?_ | refine lwp_region hC ⟨[], [], []⟩ (told0 _ _) rfl (by exact sd) ?_
      (refine end_intro (by first | exact .inr rfl | exact .inl rfl) [] rfl ?_)
      rw [hE]
      exact ⟨rfl, rfl, rfl, trivial⟩
    · have hz : withE m s r b n l = 0 := hb
      have hE : withR m s r b n l = withS m s r b n l := by unfold withR; rw [if_neg (by rw [hz]; decide)]
      obtain ⟨h, hr, hn, h0⟩ := withE_zero hz
      have hl64 := h.hl
      have hm64 := h.hm
      have hs64 := h.hs
      have hr2 := hr
      unfold slipS at hr2
      rw [firstS_cons, firstS_cons, withinS_zero, withinS_zero] at hr2
      repeat first | refine lwp_seq fun K hK => ?_ | ((with_reducible refine gA ?_); apply_assumption -exfalso -symm) | refine gB ?_ | refine gC ?_ | refine gD ?_ | refine gE ?_ | refine gF rfl ?_ | refine gG rfl ?_ | refine gH ?_ | refine gI ?_ | refine gJ ?_ | refine gK ?_ | refine gL ?_ | refine lwp_region hC ⟨[], [], []⟩ (told0 _ _) rfl ⟨⟩ ?_ | refine lwp_region hC ⟨[], [], []⟩ (told0 _ _) rfl (by exact sd) ?_
      refine lwp_loop (fun k : Nat => ⟨[(36, i64 k), (35, i64 l.length), (34, .sl 2 l.length), (3, i64 n), (4, .ptr 3 0 0 0), (6, .ptr 4 0 0 0), (8, .ptr 5 0 0 0), (11, .ptr 6 0 0 0)], [(6, .blk 126 [i64 (interS m s r b n l k).1, i64 (interS m s r b n l k).2]), (5, .blk 126 [i64 0, i64 0]), (4, .blk 124 [i64 r, i64 b]), (3, .blk 38 [.sl 0 m.length, .sl 1 s.length]), (0, .ro m.length 2 (thC m)), (1, .ro s.length 2 (thC s)), (2, .ro l.length 2 (prC l))], 7⟩) (fun k => k ≤ l.length) (fun k => l.length - k) 0 ⟨?_, sub_intro hm [(0, some 0), (1, some 1), (2, some 2), (3, some 3), (4, some 4), (5, some 5), (6, some 7)] rfl ?_⟩ ?_
      · exact Nat.zero_le _
      · exact sd
      · rintro k hk
        have hI := inter_bound (l := l) h.pm h.ps hr hn k
        clear hb
        repeat first | refine lwp_seq fun K hK => ?_ | ((with_reducible refine gA ?_); apply_assumption -exfalso -symm) | refine gB ?_ | refine gC ?_ | refine gD ?_ | refine gE ?_ | refine gF rfl ?_ | refine gG rfl ?_ | refine gH ?_ | refine gI ?_ | refine gJ ?_ | refine gK ?_ | refine gL ?_ | refine lwp_region hC ⟨[], [], []⟩ (told0 _ _) rfl ⟨⟩ ?_ | refine lwp_region hC ⟨[], [], []⟩ (told0 _ _) rfl (by exact sd) ?_
        (refine lwp_cond hC rfl (by first | exact ⟨⟩ | exact sd) (fun hb => ?_) (fun hb => ?_) <;> (try simp only [decide_eq_true_eq, decide_eq_false_iff_not, Bool.not_eq_true', Bool.not_eq_false', ne_eq, Decidable.not_not] at hb))
        · have hkl : k < l.length := by omega
          obtain ⟨⟨i1, i2⟩, i3, i4⟩ := h.p k hkl
          have c1 := cnt_bound h.ps (prAt l k)
          have c2 := plc_bound h.pm (prAt l k)
          have h5 := abs_bound (a := n - cnt s (prAt l k)) (c := 100000000) (by omega)
          have h6 := shareS_bound (d := absI (n - cnt s (prAt l k))) (r := r) (by omega) hr2.1
          have c3 := c1
          have c4 := c2
          unfold cnt thAt at c3
          unfold plc thAt at c4
          repeat first | refine lwp_seq fun K hK => ?_ | ((with_reducible refine gA ?_); apply_assumption -exfalso -symm) | refine gB ?_ | refine gC ?_ | refine gD ?_ | refine gE ?_ | refine gF rfl ?_ | refine gG rfl ?_ | refine gH ?_ | refine gI ?_ | refine gJ ?_ | refine gK ?_ | refine gL ?_ | refine lwp_region hC ⟨[], [], []⟩ (told0 _ _) rfl ⟨⟩ ?_ | refine lwp_region hC ⟨[], [], []⟩ (told0 _ _) rfl (by exact sd) ?_
          (refine lwp_drawn hC (by rw [hP]; exact mixed) ⟨[], [], [(7, Slipped_i r b (if 0 - (n - cnt s (prAt l k)) > n - cnt s (prAt l k) then 0 - (n - cnt s (prAt l k)) else n - cnt s (prAt l k)))]⟩ (told1 _ (by rw [hP]; exact (calls_cons (Slipped_s _ _ _ (by rw [← absI_if]; omega) hr2.1) calls_nil))) [0, 1, 0, 0, 0, 16, 56, 124, 255, 511] 8 rfl ?_ ?_; rotate_left 1)
          · rw [← absI_if]
            repeat first | refine lwp_seq fun K hK => ?_ | ((with_reducible refine gA ?_); apply_assumption -exfalso -symm) | refine gB ?_ | refine gC ?_ | refine gD ?_ | refine gE ?_ | refine gF rfl ?_ | refine gG rfl ?_ | refine gH ?_ | refine gI ?_ | refine gJ ?_ | refine gK ?_ | refine gL ?_ | refine lwp_region hC ⟨[], [], []⟩ (told0 _ _) rfl ⟨⟩ ?_ | refine lwp_region hC ⟨[], [], []⟩ (told0 _ _) rfl (by exact sd) ?_
            (refine lwp_cond hC rfl (by first | exact ⟨⟩ | exact sd) (fun hb => ?_) (fun hb => ?_) <;> (try simp only [decide_eq_true_eq, decide_eq_false_iff_not, Bool.not_eq_true', Bool.not_eq_false', ne_eq, Decidable.not_not] at hb))
            · obtain rfl : k = 0 := by omega
              repeat first | refine lwp_seq fun K hK => ?_ | ((with_reducible refine gA ?_); apply_assumption -exfalso -symm) | refine gB ?_ | refine gC ?_ | refine gD ?_ | refine gE ?_ | refine gF rfl ?_ | refine gG rfl ?_ | refine gH ?_ | refine gI ?_ | refine gJ ?_ | refine gK ?_ | refine gL ?_ | refine lwp_region hC ⟨[], [], []⟩ (told0 _ _) rfl ⟨⟩ ?_ | refine lwp_region hC ⟨[], [], []⟩ (told0 _ _) rfl (by exact sd) ?_
              refine gA ⟨0 + 1, ?_, ?_, sub_intro hm [(0, some 0), (1, some 1), (2, some 2), (3, some 3), (4, some 4), (5, some 5), (6, some 6)] rfl ?_⟩
              · omega
              · omega
              · rw [show interS m s r b n l (0 + 1) = ivalS m s r b n (prAt l 0) from interS_one]
                simp only [ivalS, wrongS, cnt, plc, thAt, prAt, Int.toNat_natCast]
                exact sd
            · have hk0 : k ≠ 0 := by omega
              repeat first | refine lwp_seq fun K hK => ?_ | ((with_reducible refine gA ?_); apply_assumption -exfalso -symm) | refine gB ?_ | refine gC ?_ | refine gD ?_ | refine gE ?_ | refine gF rfl ?_ | refine gG rfl ?_ | refine gH ?_ | refine gI ?_ | refine gJ ?_ | refine gK ?_ | refine gL ?_ | refine lwp_region hC ⟨[], [], []⟩ (told0 _ _) rfl ⟨⟩ ?_ | refine lwp_region hC ⟨[], [], []⟩ (told0 _ _) rfl (by exact sd) ?_
              refine gA ⟨k + 1, ?_, ?_, sub_intro hm [(0, some 0), (1, some 1), (2, some 2), (3, some 3), (4, some 4), (5, some 5), (6, some 6)] rfl ?_⟩
              · omega
              · omega
              · rw [interS_more hk0]
                simp only [cutS, ivalS, wrongS, cnt, plc, thAt, prAt, Int.toNat_natCast]
                exact sd
          · rw [absI_if] at h5 h6
            simp only [cnt, plc, thAt, prAt, Int.toNat_natCast] at h5 h6 c1 c2 i1 i2 i3 i4 ⊢
            exact sd
        · have e : k = l.length := by omega
          clear hb
          repeat first | refine lwp_seq fun K hK => ?_ | ((with_reducible refine gA ?_); apply_assumption -exfalso -symm) | refine gB ?_ | refine gC ?_ | refine gD ?_ | refine gE ?_ | refine gF rfl ?_ | refine gG rfl ?_ | refine gH ?_ | refine gI ?_ | refine gJ ?_ | refine gK ?_ | refine gL ?_ | refine lwp_region hC ⟨[], [], []⟩ (told0 _ _) rfl ⟨⟩ ?_ | refine lwp_region hC ⟨[], [], []⟩ (told0 _ _) rfl (by exact sd) ?_
          (refine lwp_cond hC rfl (by first | exact ⟨⟩ | exact sd) (fun hb => ?_) (fun hb => ?_) <;> (try simp only [decide_eq_true_eq, decide_eq_false_iff_not, Bool.not_eq_true', Bool.not_eq_false', ne_eq, Decidable.not_not] at hb))
          · have hE2 : withS m s r b n l = ((0, 0), 24) := by unfold withS; rw [← e, if_pos hb]
            repeat first | refine lwp_seq fun K hK => ?_ | ((with_reducible refine gA ?_); apply_assumption -exfalso -symm) | refine gB ?_ | refine gC ?_ | refine gD ?_ | refine gE ?_ | refine gF rfl ?_ | refine gG rfl ?_ | refine gH ?_ | refine gI ?_ | refine gJ ?_ | refine gK ?_ | refine gL ?_ | refine lwp_region hC ⟨[], [], []⟩ (told0 _ _) rfl ⟨⟩ ?_ | refine lwp_region hC ⟨[], [], []⟩ (told0 _ _) rfl (by exact sd) ?_
            (refine end_intro (by first | exact .inr rfl | exact .inl rfl) [] rfl ?_)
            rw [hE, hE2]
            exact ⟨rfl, rfl, rfl, trivial⟩
          · have hE2 : withS m s r b n l = (interS m s r b n l k, 0) := by unfold withS; rw [← e, if_neg hb]
            repeat first | refine lwp_seq fun K hK => ?_ | ((with_reducible refine gA ?_); apply_assumption -exfalso -symm) | refine gB ?_ | refine gC ?_ | refine gD ?_ | refine gE ?_ | refine gF rfl ?_ | refine gG rfl ?_ | refine gH ?_ | refine gI ?_ | refine gJ ?_ | refine gK ?_ | refine gL ?_ | refine lwp_region hC ⟨[], [], []⟩ (told0 _ _) rfl ⟨⟩ ?_ | refine lwp_region hC ⟨[], [], []⟩ (told0 _ _) rfl (by exact sd) ?_
            (refine end_intro (by first | exact .inr rfl | exact .inl rfl) [] rfl ?_)
            rw [hE, hE2]
            exact ⟨rfl, rfl, rfl, trivial⟩
  · exact sd

end Go.Proofs.YtoopgdchiljmiaaGreatDoor
