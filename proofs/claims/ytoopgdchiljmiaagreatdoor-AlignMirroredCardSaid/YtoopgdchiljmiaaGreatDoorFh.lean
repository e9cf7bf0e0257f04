/- Chapter 5: rides and alignments compared. -/
import Derived.Test.YtoopgdchiljmiaaGreatDoorEh
import Derived.Test.YtoopgdchiljmiaaGreatDoorDm
set_option linter.unusedVariables false
set_option linter.unusedSimpArgs false
namespace Go.Proofs.YtoopgdchiljmiaaGreatDoor
open Go.RowKit Go.Sym

def LRide_i (m s : List Th) (σ : Ren) : Inst := { f := 60, hin := rideIn m s, args := [rdA m s], hout := [(2, .row 115 m.length 2 (thC m)), (3, .row 117 s.length 2 (thC s))], ret := .agg [.sl 2 m.length, .sl 3 s.length], σ := σ }
set_option maxRecDepth 20000 in
set_option maxHeartbeats 4000000 in
theorem LRide_s (m s : List Th) (σ : Ren) (hm' : m.length ≤ 1000000) (hs : s.length ≤ 1000000) : (LRide_i m s σ).ok Tryz.prog := by
  unfold LRide_i Inst.ok; dsimp only; refine spec_of_body (tys := tys) 2 Tryz.func60 (by kernel_rfl) rfl tys_ok rfl (Nat.le_of_ble_eq_true rfl) (fun _ _ h => (by cases h)) fun F hP hm hC hrd => ?_; conv => whnf
  repeat first | refine lwp_seq fun K hK => ?_ | ((with_reducible refine gA ?_); apply_assumption -exfalso -symm) | refine gB ?_ | refine gC ?_ | refine gD ?_ | refine gE ?_ | refine gF rfl ?_ | refine gG rfl ?_ | refine gH ?_ | refine gI ?_ | refine gJ ?_ | refine gK ?_ | refine gL ?_ | refine lwp_region hC ⟨[], [], []⟩ (told0 _ _) rfl ⟨⟩ ?_ | refine lwp_region hC ⟨[], [], []⟩ (told0 _ _) rfl (by exact sd) ?_
  refine lwp_loop (fun k : Nat => ⟨[(11, i64 k), (10, i64 m.length), (9, .sl 0 m.length), (1, .ptr 2 0 0 0), (2, .ptr 3 0 0 0), (3, .ptr 4 0 0 0)], [(5, .row 115 k 2 (thC (m.take k))), (4, .blk 25 [.sl 5 k, .lit (.slice none 0 0)]), (3, .blk 25 [.lit (.slice none 0 0), .lit (.slice none 0 0)]), (2, .blk 38 [.sl 0 m.length, .sl 1 s.length]), (0, .ro m.length 2 (thC m)), (1, .ro s.length 2 (thC s))], 6⟩) (fun k => k ≤ m.length) (fun k => m.length - k) 0 ⟨?_, sub_intro hm [(0, some 0), (1, some 1), (2, some 2), (3, some 3), (4, some 4), (5, none)] rfl ?_⟩ ?_
  · exact Nat.zero_le _
  · exact sd
  · rintro k hk
    repeat first | refine lwp_seq fun K hK => ?_ | ((with_reducible refine gA ?_); apply_assumption -exfalso -symm) | refine gB ?_ | refine gC ?_ | refine gD ?_ | refine gE ?_ | refine gF rfl ?_ | refine gG rfl ?_ | refine gH ?_ | refine gI ?_ | refine gJ ?_ | refine gK ?_ | refine gL ?_ | refine lwp_region hC ⟨[], [], []⟩ (told0 _ _) rfl ⟨⟩ ?_ | refine lwp_region hC ⟨[], [], []⟩ (told0 _ _) rfl (by exact sd) ?_
    (refine lwp_cond hC rfl (by first | exact ⟨⟩ | exact sd) (fun hb => ?_) (fun hb => ?_) <;> (try simp only [decide_eq_true_eq, decide_eq_false_iff_not, Bool.not_eq_true', Bool.not_eq_false', ne_eq, Decidable.not_not] at hb))
    · repeat first | refine lwp_seq fun K hK => ?_ | ((with_reducible refine gA ?_); apply_assumption -exfalso -symm) | refine gB ?_ | refine gC ?_ | refine gD ?_ | refine gE ?_ | refine gF rfl ?_ | refine gG rfl ?_ | refine gH ?_ | refine gI ?_ | refine gJ ?_ | refine gK ?_ | refine gL ?_ | refine lwp_region hC ⟨[], [], []⟩ (told0 _ _) rfl ⟨⟩ ?_ | refine lwp_region hC ⟨[], [], []⟩ (told0 _ _) rfl (by exact sd) ?_
      refine gA ⟨k + 1, ?_, ?_, sub_intro hm [(0, some 0), (1, some 1), (2, some 2), (3, some 3), (4, some 4), (5, some 9)] rfl ?_⟩
      · omega
      · omega
      · have e := thC_snoc (m.take k) (m.getD k thD)
        rw [← take_snoc _ _ _ (by omega)] at e
        have e2 : (thC (m.take (k + 1))).cells = (catC (thC (m.take k)) (Cont.exp [.lit (.string (m.getD (k : Int).toNat thD).kind), .lit (.int .i64 (m.getD (k : Int).toNat thD).place)])).cells := by
          rw [catC_cells, show ((k : Int)).toNat = k from Int.toNat_natCast k, e]; rfl
        exact sd
    · obtain rfl : k = m.length := by omega
      rw [List.take_of_length_le (Nat.le_refl _)]
      repeat first | refine lwp_seq fun K hK => ?_ | ((with_reducible refine gA ?_); apply_assumption -exfalso -symm) | refine gB ?_ | refine gC ?_ | refine gD ?_ | refine gE ?_ | refine gF rfl ?_ | refine gG rfl ?_ | refine gH ?_ | refine gI ?_ | refine gJ ?_ | refine gK ?_ | refine gL ?_ | refine lwp_region hC ⟨[], [], []⟩ (told0 _ _) rfl ⟨⟩ ?_ | refine lwp_region hC ⟨[], [], []⟩ (told0 _ _) rfl (by exact sd) ?_
      refine lwp_loop (fun k : Nat => ⟨[(25, i64 k), (24, i64 s.length), (23, .sl 1 s.length), (1, .ptr 2 0 0 0), (2, .ptr 3 0 0 0), (3, .ptr 4 0 0 0)], [(6, .row 117 k 2 (thC (s.take k))), (5, .row 115 m.length 2 (thC m)), (4, .blk 25 [.sl 5 m.length, .sl 6 k]), (3, .blk 25 [.lit (.slice none 0 0), .lit (.slice none 0 0)]), (2, .blk 38 [.sl 0 m.length, .sl 1 s.length]), (0, .ro m.length 2 (thC m)), (1, .ro s.length 2 (thC s))], 7⟩) (fun k => k ≤ s.length) (fun k => s.length - k) 0 ⟨?_, sub_intro hm [(0, some 0), (1, some 1), (2, some 2), (3, some 3), (4, some 4), (5, some 5), (6, none)] rfl ?_⟩ ?_
      · exact Nat.zero_le _
      · exact sd
      · rintro k hk
        repeat first | refine lwp_seq fun K hK => ?_ | ((with_reducible refine gA ?_); apply_assumption -exfalso -symm) | refine gB ?_ | refine gC ?_ | refine gD ?_ | refine gE ?_ | refine gF rfl ?_ | refine gG rfl ?_ | refine gH ?_ | refine gI ?_ | refine gJ ?_ | refine gK ?_ | refine gL ?_ | refine lwp_region hC ⟨[], [], []⟩ (told0 _ _) rfl ⟨⟩ ?_ | refine lwp_region hC ⟨[], [], []⟩ (told0 _ _) rfl (by exact sd) ?_
        (refine lwp_cond hC rfl (by first | exact ⟨⟩ | exact sd) (fun hb => ?_) (fun hb => ?_) <;> (try simp only [decide_eq_true_eq, decide_eq_false_iff_not, Bool.not_eq_true', Bool.not_eq_false', ne_eq, Decidable.not_not] at hb))
        · repeat first | refine lwp_seq fun K hK => ?_ | ((with_reducible refine gA ?_); apply_assumption -exfalso -symm) | refine gB ?_ | refine gC ?_ | refine gD ?_ | refine gE ?_ | refine gF rfl ?_ | refine gG rfl ?_ | refine gH ?_ | refine gI ?_ | refine gJ ?_ | refine gK ?_ | refine gL ?_ | refine lwp_region hC ⟨[], [], []⟩ (told0 _ _) rfl ⟨⟩ ?_ | refine lwp_region hC ⟨[], [], []⟩ (told0 _ _) rfl (by exact sd) ?_
          refine gA ⟨k + 1, ?_, ?_, sub_intro hm [(0, some 0), (1, some 1), (2, some 2), (3, some 3), (4, some 4), (5, some 5), (6, some 10)] rfl ?_⟩
          · omega
          · omega
          · have e := thC_snoc (s.take k) (s.getD k thD)
            rw [← take_snoc _ _ _ (by omega)] at e
            have e2 : (thC (s.take (k + 1))).cells = (catC (thC (s.take k)) (Cont.exp [.lit (.string (s.getD (k : Int).toNat thD).kind), .lit (.int .i64 (s.getD (k : Int).toNat thD).place)])).cells := by
              rw [catC_cells, show ((k : Int)).toNat = k from Int.toNat_natCast k, e]; rfl
            exact sd
        · repeat first | refine lwp_seq fun K hK => ?_ | ((with_reducible refine gA ?_); apply_assumption -exfalso -symm) | refine gB ?_ | refine gC ?_ | refine gD ?_ | refine gE ?_ | refine gF rfl ?_ | refine gG rfl ?_ | refine gH ?_ | refine gI ?_ | refine gJ ?_ | refine gK ?_ | refine gL ?_ | refine lwp_region hC ⟨[], [], []⟩ (told0 _ _) rfl ⟨⟩ ?_ | refine lwp_region hC ⟨[], [], []⟩ (told0 _ _) rfl (by exact sd) ?_
          (refine end_intro (by first | exact .inr rfl | exact .inl rfl) [(2, some 5), (3, some 6)] rfl ?_)
          obtain rfl : k = s.length := by omega
          rw [List.take_of_length_le (Nat.le_refl _)]
          exact sd

def LPairsC_i (l : List (Int × Int)) (σ : Ren) : Inst := { f := 54, hin := [(0, .ro l.length 2 (prC l))], args := [.sl 0 l.length], hout := [(1, .row 105 l.length 2 (prC l))], ret := .sl 1 l.length, σ := σ }
theorem LPairsC_s (l : List (Int × Int)) (σ : Ren) (hl : l.length ≤ 1000000) : (LPairsC_i l σ).ok Tryz.prog := by
  unfold LPairsC_i Inst.ok; dsimp only; refine spec_of_body (tys := tys) 1 Tryz.func54 (by kernel_rfl) rfl tys_ok rfl (Nat.le_of_ble_eq_true rfl) (fun _ _ h => (by cases h)) fun F hP hm hC hrd => ?_; conv => whnf
  repeat first | refine lwp_seq fun K hK => ?_ | ((with_reducible refine gA ?_); apply_assumption -exfalso -symm) | refine gB ?_ | refine gC ?_ | refine gD ?_ | refine gE ?_ | refine gF rfl ?_ | refine gG rfl ?_ | refine gH ?_ | refine gI ?_ | refine gJ ?_ | refine gK ?_ | refine gL ?_ | refine lwp_region hC ⟨[], [], []⟩ (told0 _ _) rfl ⟨⟩ ?_ | refine lwp_region hC ⟨[], [], []⟩ (told0 _ _) rfl (by exact sd) ?_
  refine lwp_loop (fun k : Nat => ⟨[(8, i64 k), (7, i64 l.length), (6, .sl 0 l.length), (3, .sl 1 k)], [(1, .row 105 k 2 (prC (l.take k))), (0, .ro l.length 2 (prC l))], 2⟩) (fun k => k ≤ l.length) (fun k => l.length - k) 0 ⟨?_, sub_intro hm [(0, some 0), (1, none)] rfl ?_⟩ ?_
  · exact Nat.zero_le _
  · exact sd
  · rintro k hk
    repeat first | refine lwp_seq fun K hK => ?_ | ((with_reducible refine gA ?_); apply_assumption -exfalso -symm) | refine gB ?_ | refine gC ?_ | refine gD ?_ | refine gE ?_ | refine gF rfl ?_ | refine gG rfl ?_ | refine gH ?_ | refine gI ?_ | refine gJ ?_ | refine gK ?_ | refine gL ?_ | refine lwp_region hC ⟨[], [], []⟩ (told0 _ _) rfl ⟨⟩ ?_ | refine lwp_region hC ⟨[], [], []⟩ (told0 _ _) rfl (by exact sd) ?_
    (refine lwp_cond hC rfl (by first | exact ⟨⟩ | exact sd) (fun hb => ?_) (fun hb => ?_) <;> (try simp only [decide_eq_true_eq, decide_eq_false_iff_not, Bool.not_eq_true', Bool.not_eq_false', ne_eq, Decidable.not_not] at hb))
    · repeat first | refine lwp_seq fun K hK => ?_ | ((with_reducible refine gA ?_); apply_assumption -exfalso -symm) | refine gB ?_ | refine gC ?_ | refine gD ?_ | refine gE ?_ | refine gF rfl ?_ | refine gG rfl ?_ | refine gH ?_ | refine gI ?_ | refine gJ ?_ | refine gK ?_ | refine gL ?_ | refine lwp_region hC ⟨[], [], []⟩ (told0 _ _) rfl ⟨⟩ ?_ | refine lwp_region hC ⟨[], [], []⟩ (told0 _ _) rfl (by exact sd) ?_
      refine gA ⟨k + 1, ?_, ?_, sub_intro hm [(0, some 0), (1, some 5)] rfl ?_⟩
      · omega
      · omega
      · have e := prC_snoc (l.take k) (l.getD (k : Int).toNat (0, 0))
        rw [show ((k : Int)).toNat = k from Int.toNat_natCast k, ← take_snoc _ _ _ (by omega)] at e
        have e2 : (prC (l.take (k + 1))).cells = (catC (prC (l.take k)) (Cont.exp [.lit (.int .i64 (l.getD (k : Int).toNat (0, 0)).1), .lit (.int .i64 (l.getD (k : Int).toNat (0, 0)).2)])).cells := by
          rw [catC_cells, show ((k : Int)).toNat = k from Int.toNat_natCast k, e]; rfl
        exact sd
    · repeat first | refine lwp_seq fun K hK => ?_ | ((with_reducible refine gA ?_); apply_assumption -exfalso -symm) | refine gB ?_ | refine gC ?_ | refine gD ?_ | refine gE ?_ | refine gF rfl ?_ | refine gG rfl ?_ | refine gH ?_ | refine gI ?_ | refine gJ ?_ | refine gK ?_ | refine gL ?_ | refine lwp_region hC ⟨[], [], []⟩ (told0 _ _) rfl ⟨⟩ ?_ | refine lwp_region hC ⟨[], [], []⟩ (told0 _ _) rfl (by exact sd) ?_
      (refine end_intro (by first | exact .inr rfl | exact .inl rfl) [(1, some 1)] rfl ?_)
      obtain rfl : k = l.length := by omega
      rw [List.take_of_length_le (by omega)]
      exact sd


def SameP_i (l : List (Int × Int)) (σ : Ren) : Inst := { f := 62, hin := [(0, .ro l.length 2 (prC l)), (1, .ro l.length 2 (prC l))], args := [.sl 0 l.length, .sl 1 l.length], hout := [], ret := bl true, σ := σ }
set_option maxRecDepth 20000 in
theorem SameP_s (l : List (Int × Int)) (σ : Ren) (hl : l.length ≤ 1000000) : (SameP_i l σ).ok Tryz.prog := by
  unfold SameP_i Inst.ok; dsimp only; refine spec_of_body (tys := tys) 2 Tryz.func62 (by kernel_rfl) rfl tys_ok rfl (Nat.le_of_ble_eq_true rfl) (fun _ _ h => (by cases h)) fun F hP hm hC hrd => ?_; conv => whnf
  repeat first | refine lwp_seq fun K hK => ?_ | ((with_reducible refine gA ?_); apply_assumption -exfalso -symm) | refine gB ?_ | refine gC ?_ | refine gD ?_ | refine gE ?_ | refine gF rfl ?_ | refine gG rfl ?_ | refine gH ?_ | refine gI ?_ | refine gJ ?_ | refine gK ?_ | refine gL ?_ | refine lwp_region hC ⟨[], [], []⟩ (told0 _ _) rfl ⟨⟩ ?_ | refine lwp_region hC ⟨[], [], []⟩ (told0 _ _) rfl (by exact sd) ?_
  (refine lwp_cond hC rfl (by first | exact ⟨⟩ | exact sd) (fun hb => ?_) (fun hb => ?_) <;> (try simp only [decide_eq_true_eq, decide_eq_false_iff_not, Bool.not_eq_true', Bool.not_eq_false', ne_eq, Decidable.not_not] at hb))
  · exact absurd trivial hb
  · clear hb
    repeat first | refine lwp_seq fun K hK => ?_ | ((with_reducible refine gA ?_); apply_assumption -exfalso -symm) | refine gB ?_ | refine gC ?_ | refine gD ?_ | refine gE ?_ | refine gF rfl ?_ | refine gG rfl ?_ | refine gH ?_ | refine gI ?_ | refine gJ ?_ | refine gK ?_ | refine gL ?_ | refine lwp_region hC ⟨[], [], []⟩ (told0 _ _) rfl ⟨⟩ ?_ | refine lwp_region hC ⟨[], [], []⟩ (told0 _ _) rfl (by exact sd) ?_
    refine lwp_loop (fun k : Nat => ⟨[(5, i64 k), (0, .sl 0 l.length), (1, .sl 1 l.length)], [(0, .ro l.length 2 (prC l)), (1, .ro l.length 2 (prC l))], 2⟩) (fun k => k ≤ l.length) (fun k => l.length - k) 0 ⟨?_, sub_intro hm [(0, some 0), (1, some 1)] rfl ?_⟩ ?_
    · exact Nat.zero_le _
    · exact sd
    · rintro k hk
      repeat first | refine lwp_seq fun K hK => ?_ | ((with_reducible refine gA ?_); apply_assumption -exfalso -symm) | refine gB ?_ | refine gC ?_ | refine gD ?_ | refine gE ?_ | refine gF rfl ?_ | refine gG rfl ?_ | refine gH ?_ | refine gI ?_ | refine gJ ?_ | refine gK ?_ | refine gL ?_ | refine lwp_region hC ⟨[], [], []⟩ (told0 _ _) rfl ⟨⟩ ?_ | refine lwp_region hC ⟨[], [], []⟩ (told0 _ _) rfl (by exact sd) ?_
      (refine lwp_cond hC rfl (by first | exact ⟨⟩ | exact sd) (fun hb => ?_) (fun hb => ?_) <;> (try simp only [decide_eq_true_eq, decide_eq_false_iff_not, Bool.not_eq_true', Bool.not_eq_false', ne_eq, Decidable.not_not] at hb))
      · have hkl : k < l.length := by omega
        repeat first | refine lwp_seq fun K hK => ?_ | ((with_reducible refine gA ?_); apply_assumption -exfalso -symm) | refine gB ?_ | refine gC ?_ | refine gD ?_ | refine gE ?_ | refine gF rfl ?_ | refine gG rfl ?_ | refine gH ?_ | refine gI ?_ | refine gJ ?_ | refine gK ?_ | refine gL ?_ | refine lwp_region hC ⟨[], [], []⟩ (told0 _ _) rfl ⟨⟩ ?_ | refine lwp_region hC ⟨[], [], []⟩ (told0 _ _) rfl (by exact sd) ?_
        (refine lwp_drawn hC (by rw [hP]; exact mixed) ⟨[], [(8, custRPair)], []⟩ ⟨(fun p hp => by rcases List.mem_cons.1 hp with rfl | hp; rw [hP]; exact custRPair_ok; cases hp), (fun _ h => (by cases h))⟩ [0, 0, 3, 7, 0, 0, 48, 112, 255] 8 rfl ?_ ?_; rotate_left 1)
        · repeat first | refine lwp_seq fun K hK => ?_ | ((with_reducible refine gA ?_); apply_assumption -exfalso -symm) | refine gB ?_ | refine gC ?_ | refine gD ?_ | refine gE ?_ | refine gF rfl ?_ | refine gG rfl ?_ | refine gH ?_ | refine gI ?_ | refine gJ ?_ | refine gK ?_ | refine gL ?_ | refine lwp_region hC ⟨[], [], []⟩ (told0 _ _) rfl ⟨⟩ ?_ | refine lwp_region hC ⟨[], [], []⟩ (told0 _ _) rfl (by exact sd) ?_
          (refine lwp_cond hC rfl (by first | exact ⟨⟩ | exact sd) (fun hb => ?_) (fun hb => ?_) <;> (try simp only [decide_eq_true_eq, decide_eq_false_iff_not, Bool.not_eq_true', Bool.not_eq_false', ne_eq, Decidable.not_not] at hb))
          · simp at hb
          · repeat first | refine lwp_seq fun K hK => ?_ | ((with_reducible refine gA ?_); apply_assumption -exfalso -symm) | refine gB ?_ | refine gC ?_ | refine gD ?_ | refine gE ?_ | refine gF rfl ?_ | refine gG rfl ?_ | refine gH ?_ | refine gI ?_ | refine gJ ?_ | refine gK ?_ | refine gL ?_ | refine lwp_region hC ⟨[], [], []⟩ (told0 _ _) rfl ⟨⟩ ?_ | refine lwp_region hC ⟨[], [], []⟩ (told0 _ _) rfl (by exact sd) ?_
            refine gA ⟨k + 1, ?_, ?_, sub_intro hm [(0, some 0), (1, some 1)] rfl ?_⟩
            · omega
            · omega
            · exact sd
        · exact sd
      · repeat first | refine lwp_seq fun K hK => ?_ | ((with_reducible refine gA ?_); apply_assumption -exfalso -symm) | refine gB ?_ | refine gC ?_ | refine gD ?_ | refine gE ?_ | refine gF rfl ?_ | refine gG rfl ?_ | refine gH ?_ | refine gI ?_ | refine gJ ?_ | refine gK ?_ | refine gL ?_ | refine lwp_region hC ⟨[], [], []⟩ (told0 _ _) rfl ⟨⟩ ?_ | refine lwp_region hC ⟨[], [], []⟩ (told0 _ _) rfl (by exact sd) ?_
        (refine end_intro (by first | exact .inr rfl | exact .inl rfl) [] rfl ?_)
        exact ⟨rfl, trivial⟩

theorem ba_self (x : ByteArray) : (x == x) = true := by cases x with | mk d => exact beq_self_eq_true d
def SameR_i (a b : List Th) (σ : Ren) : Inst := { f := 61, hin := [(0, .ro a.length 2 (thC a)), (1, .ro b.length 2 (thC b)), (2, .ro a.length 2 (thC a)), (3, .ro b.length 2 (thC b))], args := [.agg [.sl 0 a.length, .sl 1 b.length], .agg [.sl 2 a.length, .sl 3 b.length]], hout := [], ret := bl true, σ := σ }
set_option maxRecDepth 20000 in
set_option maxHeartbeats 4000000 in
theorem SameR_s (a b : List Th) (σ : Ren) (ha : a.length ≤ 1000000) (hb' : b.length ≤ 1000000) : (SameR_i a b σ).ok Tryz.prog := by
  unfold SameR_i Inst.ok; dsimp only; refine spec_of_body (tys := tys) 4 Tryz.func61 (by kernel_rfl) rfl tys_ok rfl (Nat.le_of_ble_eq_true rfl) (fun _ _ h => (by cases h)) fun F hP hm hC hrd => ?_; conv => whnf
  repeat first | refine lwp_seq fun K hK => ?_ | ((with_reducible refine gA ?_); apply_assumption -exfalso -symm) | refine gB ?_ | refine gC ?_ | refine gD ?_ | refine gE ?_ | refine gF rfl ?_ | refine gG rfl ?_ | refine gH ?_ | refine gI ?_ | refine gJ ?_ | refine gK ?_ | refine gL ?_ | refine lwp_region hC ⟨[], [], []⟩ (told0 _ _) rfl ⟨⟩ ?_
  (refine lwp_region hC ⟨[], [], []⟩ (told0 _ _) rfl ?_ ?_; rotate_left 1)
  · repeat first | refine lwp_seq fun K hK => ?_ | ((with_reducible refine gA ?_); apply_assumption -exfalso -symm) | refine gB ?_ | refine gC ?_ | refine gD ?_ | refine gE ?_ | refine gF rfl ?_ | refine gG rfl ?_ | refine gH ?_ | refine gI ?_ | refine gJ ?_ | refine gK ?_ | refine gL ?_ | refine lwp_region hC ⟨[], [], []⟩ (told0 _ _) rfl ⟨⟩ ?_ | refine lwp_region hC ⟨[], [], []⟩ (told0 _ _) rfl (by exact sd) ?_
    (refine lwp_cond hC rfl (by first | exact ⟨⟩ | exact sd) (fun hb => ?_) (fun hb => ?_) <;> (try simp only [decide_eq_true_eq, decide_eq_false_iff_not, Bool.not_eq_true', Bool.not_eq_false', ne_eq, Decidable.not_not] at hb))
    · simp at hb
    · clear hb
      repeat first | refine lwp_seq fun K hK => ?_ | ((with_reducible refine gA ?_); apply_assumption -exfalso -symm) | refine gB ?_ | refine gC ?_ | refine gD ?_ | refine gE ?_ | refine gF rfl ?_ | refine gG rfl ?_ | refine gH ?_ | refine gI ?_ | refine gJ ?_ | refine gK ?_ | refine gL ?_ | refine lwp_region hC ⟨[], [], []⟩ (told0 _ _) rfl ⟨⟩ ?_ | refine lwp_region hC ⟨[], [], []⟩ (told0 _ _) rfl (by exact sd) ?_
      refine lwp_loop (fun k : Nat => ⟨[(5, i64 k), (2, .ptr 4 0 0 0), (3, .ptr 5 0 0 0)], [(5, .blk 25 [.sl 2 a.length, .sl 3 b.length]), (4, .blk 25 [.sl 0 a.length, .sl 1 b.length]), (0, .ro a.length 2 (thC a)), (1, .ro b.length 2 (thC b)), (2, .ro a.length 2 (thC a)), (3, .ro b.length 2 (thC b))], 6⟩) (fun k => k ≤ a.length) (fun k => a.length - k) 0 ⟨?_, sub_intro hm [(0, some 0), (1, some 1), (2, some 2), (3, some 3), (4, some 4), (5, some 5)] rfl ?_⟩ ?_
      · exact Nat.zero_le _
      · exact sd
      · rintro k hk
        repeat first | refine lwp_seq fun K hK => ?_ | ((with_reducible refine gA ?_); apply_assumption -exfalso -symm) | refine gB ?_ | refine gC ?_ | refine gD ?_ | refine gE ?_ | refine gF rfl ?_ | refine gG rfl ?_ | refine gH ?_ | refine gI ?_ | refine gJ ?_ | refine gK ?_ | refine gL ?_ | refine lwp_region hC ⟨[], [], []⟩ (told0 _ _) rfl ⟨⟩ ?_ | refine lwp_region hC ⟨[], [], []⟩ (told0 _ _) rfl (by exact sd) ?_
        (refine lwp_cond hC rfl (by first | exact ⟨⟩ | exact sd) (fun hb => ?_) (fun hb => ?_) <;> (try simp only [decide_eq_true_eq, decide_eq_false_iff_not, Bool.not_eq_true', Bool.not_eq_false', ne_eq, Decidable.not_not] at hb))
        · have hkl : k < a.length := by omega
          repeat first | refine lwp_seq fun K hK => ?_ | ((with_reducible refine gA ?_); apply_assumption -exfalso -symm) | refine gB ?_ | refine gC ?_ | refine gD ?_ | refine gE ?_ | refine gF rfl ?_ | refine gG rfl ?_ | refine gH ?_ | refine gI ?_ | refine gJ ?_ | refine gK ?_ | refine gL ?_ | refine lwp_region hC ⟨[], [], []⟩ (told0 _ _) rfl ⟨⟩ ?_
          (refine lwp_drawn hC (by rw [hP]; exact mixed) ⟨[], [(10, custMark)], []⟩ ⟨(fun p hp => by rcases List.mem_cons.1 hp with rfl | hp; rw [hP]; exact custMark_ok; cases hp), (fun _ h => (by cases h))⟩ [0, 1, 0, 7, 15, 0, 32, 0, 224, 480, 1023] 10 rfl ?_ ?_; rotate_left 1)
          · repeat first | refine lwp_seq fun K hK => ?_ | ((with_reducible refine gA ?_); apply_assumption -exfalso -symm) | refine gB ?_ | refine gC ?_ | refine gD ?_ | refine gE ?_ | refine gF rfl ?_ | refine gG rfl ?_ | refine gH ?_ | refine gI ?_ | refine gJ ?_ | refine gK ?_ | refine gL ?_ | refine lwp_region hC ⟨[], [], []⟩ (told0 _ _) rfl ⟨⟩ ?_ | refine lwp_region hC ⟨[], [], []⟩ (told0 _ _) rfl (by exact sd) ?_
            (refine lwp_cond hC rfl (by first | exact ⟨⟩ | exact sd) (fun hb => ?_) (fun hb => ?_) <;> (try simp only [decide_eq_true_eq, decide_eq_false_iff_not, Bool.not_eq_true', Bool.not_eq_false', ne_eq, Decidable.not_not] at hb))
            · rw [ba_self] at hb
              simp at hb
            · clear hb
              repeat first | refine lwp_seq fun K hK => ?_ | ((with_reducible refine gA ?_); apply_assumption -exfalso -symm) | refine gB ?_ | refine gC ?_ | refine gD ?_ | refine gE ?_ | refine gF rfl ?_ | refine gG rfl ?_ | refine gH ?_ | refine gI ?_ | refine gJ ?_ | refine gK ?_ | refine gL ?_ | refine lwp_region hC ⟨[], [], []⟩ (told0 _ _) rfl ⟨⟩ ?_ | refine lwp_region hC ⟨[], [], []⟩ (told0 _ _) rfl (by exact sd) ?_
              refine gA ⟨k + 1, ?_, ?_, sub_intro hm [(0, some 0), (1, some 1), (2, some 2), (3, some 3), (4, some 4), (5, some 5)] rfl ?_⟩
              · omega
              · omega
              · exact sd
          · exact sd
        · clear hb
          repeat first | refine lwp_seq fun K hK => ?_ | ((with_reducible refine gA ?_); apply_assumption -exfalso -symm) | refine gB ?_ | refine gC ?_ | refine gD ?_ | refine gE ?_ | refine gF rfl ?_ | refine gG rfl ?_ | refine gH ?_ | refine gI ?_ | refine gJ ?_ | refine gK ?_ | refine gL ?_ | refine lwp_region hC ⟨[], [], []⟩ (told0 _ _) rfl ⟨⟩ ?_ | refine lwp_region hC ⟨[], [], []⟩ (told0 _ _) rfl (by exact sd) ?_
          refine lwp_loop (fun k : Nat => ⟨[(6, i64 k), (2, .ptr 4 0 0 0), (3, .ptr 5 0 0 0)], [(5, .blk 25 [.sl 2 a.length, .sl 3 b.length]), (4, .blk 25 [.sl 0 a.length, .sl 1 b.length]), (0, .ro a.length 2 (thC a)), (1, .ro b.length 2 (thC b)), (2, .ro a.length 2 (thC a)), (3, .ro b.length 2 (thC b))], 6⟩) (fun k => k ≤ b.length) (fun k => b.length - k) 0 ⟨?_, sub_intro hm [(0, some 0), (1, some 1), (2, some 2), (3, some 3), (4, some 4), (5, some 5)] rfl ?_⟩ ?_
          · exact Nat.zero_le _
          · exact sd
          · clear hk
            rintro k hk
            repeat first | refine lwp_seq fun K hK => ?_ | ((with_reducible refine gA ?_); apply_assumption -exfalso -symm) | refine gB ?_ | refine gC ?_ | refine gD ?_ | refine gE ?_ | refine gF rfl ?_ | refine gG rfl ?_ | refine gH ?_ | refine gI ?_ | refine gJ ?_ | refine gK ?_ | refine gL ?_ | refine lwp_region hC ⟨[], [], []⟩ (told0 _ _) rfl ⟨⟩ ?_ | refine lwp_region hC ⟨[], [], []⟩ (told0 _ _) rfl (by exact sd) ?_
            (refine lwp_cond hC rfl (by first | exact ⟨⟩ | exact sd) (fun hb => ?_) (fun hb => ?_) <;> (try simp only [decide_eq_true_eq, decide_eq_false_iff_not, Bool.not_eq_true', Bool.not_eq_false', ne_eq, Decidable.not_not] at hb))
            · have hkl : k < b.length := by omega
              repeat first | refine lwp_seq fun K hK => ?_ | ((with_reducible refine gA ?_); apply_assumption -exfalso -symm) | refine gB ?_ | refine gC ?_ | refine gD ?_ | refine gE ?_ | refine gF rfl ?_ | refine gG rfl ?_ | refine gH ?_ | refine gI ?_ | refine gJ ?_ | refine gK ?_ | refine gL ?_ | refine lwp_region hC ⟨[], [], []⟩ (told0 _ _) rfl ⟨⟩ ?_
              (refine lwp_drawn hC (by rw [hP]; exact mixed) ⟨[], [(10, custSight)], []⟩ ⟨(fun p hp => by rcases List.mem_cons.1 hp with rfl | hp; rw [hP]; exact custSight_ok; cases hp), (fun _ h => (by cases h))⟩ [0, 1, 0, 7, 15, 0, 32, 0, 224, 480, 1023] 10 rfl ?_ ?_; rotate_left 1)
              · repeat first | refine lwp_seq fun K hK => ?_ | ((with_reducible refine gA ?_); apply_assumption -exfalso -symm) | refine gB ?_ | refine gC ?_ | refine gD ?_ | refine gE ?_ | refine gF rfl ?_ | refine gG rfl ?_ | refine gH ?_ | refine gI ?_ | refine gJ ?_ | refine gK ?_ | refine gL ?_ | refine lwp_region hC ⟨[], [], []⟩ (told0 _ _) rfl ⟨⟩ ?_ | refine lwp_region hC ⟨[], [], []⟩ (told0 _ _) rfl (by exact sd) ?_
                (refine lwp_cond hC rfl (by first | exact ⟨⟩ | exact sd) (fun hb => ?_) (fun hb => ?_) <;> (try simp only [decide_eq_true_eq, decide_eq_false_iff_not, Bool.not_eq_true', Bool.not_eq_false', ne_eq, Decidable.not_not] at hb))
                · rw [ba_self] at hb
                  simp at hb
                · clear hb
                  repeat first | refine lwp_seq fun K hK => ?_ | ((with_reducible refine gA ?_); apply_assumption -exfalso -symm) | refine gB ?_ | refine gC ?_ | refine gD ?_ | refine gE ?_ | refine gF rfl ?_ | refine gG rfl ?_ | refine gH ?_ | refine gI ?_ | refine gJ ?_ | refine gK ?_ | refine gL ?_ | refine lwp_region hC ⟨[], [], []⟩ (told0 _ _) rfl ⟨⟩ ?_ | refine lwp_region hC ⟨[], [], []⟩ (told0 _ _) rfl (by exact sd) ?_
                  refine gA ⟨k + 1, ?_, ?_, sub_intro hm [(0, some 0), (1, some 1), (2, some 2), (3, some 3), (4, some 4), (5, some 5)] rfl ?_⟩
                  · omega
                  · omega
                  · exact sd
              · exact sd
            · repeat first | refine lwp_seq fun K hK => ?_ | ((with_reducible refine gA ?_); apply_assumption -exfalso -symm) | refine gB ?_ | refine gC ?_ | refine gD ?_ | refine gE ?_ | refine gF rfl ?_ | refine gG rfl ?_ | refine gH ?_ | refine gI ?_ | refine gJ ?_ | refine gK ?_ | refine gL ?_ | refine lwp_region hC ⟨[], [], []⟩ (told0 _ _) rfl ⟨⟩ ?_ | refine lwp_region hC ⟨[], [], []⟩ (told0 _ _) rfl (by exact sd) ?_
              (refine end_intro (by first | exact .inr rfl | exact .inl rfl) [] rfl ?_)
              exact ⟨rfl, trivial⟩
  · exact sd

def Paired_i (l : List (Int × Int)) (e : Int) (σ : Ren) : Inst := { f := 25, hin := [(0, .ro l.length 2 (prC l)), (1, .ro l.length 2 (prC l))], args := [.sl 0 l.length, i64 e, i64 e, .sl 1 l.length], hout := [], ret := bl true, σ := σ }
set_option maxRecDepth 20000 in
theorem Paired_s (l : List (Int × Int)) (e : Int) (σ : Ren) (hl : l.length ≤ 1000000) (he : e ≠ 0 → l = []) : (Paired_i l e σ).ok Tryz.prog := by
  by_cases h : e = 0
  · subst h
    unfold Paired_i Inst.ok; dsimp only; refine spec_of_body (tys := tys) 2 Tryz.func25 (by kernel_rfl) rfl tys_ok rfl (Nat.le_of_ble_eq_true rfl) (fun _ _ h => (by cases h)) fun F hP hm hC hrd => ?_; conv => whnf
    repeat first | refine lwp_seq fun K hK => ?_ | ((with_reducible refine gA ?_); apply_assumption -exfalso -symm) | refine gB ?_ | refine gC ?_ | refine gD ?_ | refine gE ?_ | refine gF rfl ?_ | refine gG rfl ?_ | refine gH ?_ | refine gI ?_ | refine gJ ?_ | refine gK ?_ | refine gL ?_ | refine lwp_region hC ⟨[], [], []⟩ (told0 _ _) rfl ⟨⟩ ?_
    (refine lwp_region hC ⟨[(3, { b := some true }), (11, { b := some false }), (14, { b := some true })], [], [(16, LPairsC_i l [(0, some 0)]), (18, SameP_i l [(0, some 2), (1, some 1)])]⟩ (told1 _ (by rw [hP]; exact (calls_cons (LPairsC_s _ _ hl) (calls_cons (SameP_s _ _ hl) calls_nil)))) rfl ?_ ?_; rotate_left 1)
    · repeat first | refine lwp_seq fun K hK => ?_ | ((with_reducible refine gA ?_); apply_assumption -exfalso -symm) | refine gB ?_ | refine gC ?_ | refine gD ?_ | refine gE ?_ | refine gF rfl ?_ | refine gG rfl ?_ | refine gH ?_ | refine gI ?_ | refine gJ ?_ | refine gK ?_ | refine gL ?_ | refine lwp_region hC ⟨[], [], []⟩ (told0 _ _) rfl ⟨⟩ ?_ | refine lwp_region hC ⟨[], [], []⟩ (told0 _ _) rfl (by exact sd) ?_
      (refine end_intro (by first | exact .inr rfl | exact .inl rfl) [] rfl ?_)
      exact ⟨rfl, trivial⟩
    · exact sd
  · have hn := he h
    subst hn
    unfold Paired_i Inst.ok; dsimp only; refine spec_of_body (tys := tys) 2 Tryz.func25 (by kernel_rfl) rfl tys_ok rfl (Nat.le_of_ble_eq_true rfl) (fun _ _ h => (by cases h)) fun F hP hm hC hrd => ?_; conv => whnf
    repeat first | refine lwp_seq fun K hK => ?_ | ((with_reducible refine gA ?_); apply_assumption -exfalso -symm) | refine gB ?_ | refine gC ?_ | refine gD ?_ | refine gE ?_ | refine gF rfl ?_ | refine gG rfl ?_ | refine gH ?_ | refine gI ?_ | refine gJ ?_ | refine gK ?_ | refine gL ?_ | refine lwp_region hC ⟨[], [], []⟩ (told0 _ _) rfl ⟨⟩ ?_
    (refine lwp_region hC ⟨[(3, { b := some true }), (11, { b := some true, g := some true }), (12, { g := some false }), (13, { g := some false }), (14, { g := some false }), (15, { g := some false }), (16, { g := some false }), (17, { g := some false }), (18, { g := some false }), (19, { g := some false })], [], []⟩ (told0 _ _) rfl ?_ ?_; rotate_left 1)
    · repeat first | refine lwp_seq fun K hK => ?_ | ((with_reducible refine gA ?_); apply_assumption -exfalso -symm) | refine gB ?_ | refine gC ?_ | refine gD ?_ | refine gE ?_ | refine gF rfl ?_ | refine gG rfl ?_ | refine gH ?_ | refine gI ?_ | refine gJ ?_ | refine gK ?_ | refine gL ?_ | refine lwp_region hC ⟨[], [], []⟩ (told0 _ _) rfl ⟨⟩ ?_ | refine lwp_region hC ⟨[], [], []⟩ (told0 _ _) rfl (by exact sd) ?_
      (refine end_intro (by first | exact .inr rfl | exact .inl rfl) [] rfl ?_)
      exact ⟨rfl, trivial⟩
    · exact sd

end Go.Proofs.YtoopgdchiljmiaaGreatDoor
