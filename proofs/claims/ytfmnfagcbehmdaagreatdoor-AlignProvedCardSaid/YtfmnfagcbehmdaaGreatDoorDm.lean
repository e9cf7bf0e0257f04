/- Chapter 5: what the law's package makes of values. -/
import Derived.Test.YtfmnfagcbehmdaaGreatDoorDi
set_option linter.unusedVariables false
set_option linter.unusedSimpArgs false
namespace Go.Proofs.YtfmnfagcbehmdaaGreatDoor
open Go.RowKit Go.Sym

theorem prC_snoc (l : List (Int × Int)) (x : Int × Int) : (prC (l ++ [x])).cells = (prC l).cells ++ [.lit (.int .i64 x.1), .lit (.int .i64 x.2)] := genL_snoc (f := prV) (fun _ => rfl) l x
def Given_i (l : List (Int × Int)) (σ : Ren) : Inst := { f := 33, hin := [(0, .ro l.length 2 (prC l))], args := [.sl 0 l.length], hout := [(1, .row 75 l.length 2 (prC l))], ret := .sl 1 l.length, σ := σ }
theorem Given_s (l : List (Int × Int)) (σ : Ren) (hl : l.length ≤ 1000000) : (Given_i l σ).ok Tryz.prog := by
  unfold Given_i Inst.ok; dsimp only; refine spec_of_body (tys := tys) 1 Tryz.func33 (by kernel_rfl) rfl tys_ok rfl (Nat.le_of_ble_eq_true rfl) (fun _ _ h => (by cases h)) fun F hP hm hC hrd => ?_; conv => whnf
  repeat first | refine lwp_seq fun K hK => ?_ | ((with_reducible refine gA ?_); apply_assumption -exfalso -symm) | refine gB ?_ | refine gC ?_ | refine gD ?_ | refine gE ?_ | refine gF rfl ?_ | refine gG rfl ?_ | refine gH ?_ | refine gI ?_ | refine gJ ?_ | refine gK ?_ | refine gL ?_ | refine gM hC rfl ⟨⟩ ?_ | refine gM hC rfl (by exact sd) ?_
  refine lwp_loop (fun k : Nat => ⟨[(8, i64 k), (7, i64 l.length), (6, .sl 0 l.length), (3, .sl 1 k)], [(1, .row 75 k 2 (prC (l.take k))), (0, .ro l.length 2 (prC l))], 2⟩) (fun k => k ≤ l.length) (fun k => l.length - k) 0 ⟨?_, sub_intro hm [(0, some 0), (1, none)] rfl ?_⟩ ?_
  · exact Nat.zero_le _
  · exact sd
  · rintro k hk
    repeat first | refine lwp_seq fun K hK => ?_ | ((with_reducible refine gA ?_); apply_assumption -exfalso -symm) | refine gB ?_ | refine gC ?_ | refine gD ?_ | refine gE ?_ | refine gF rfl ?_ | refine gG rfl ?_ | refine gH ?_ | refine gI ?_ | refine gJ ?_ | refine gK ?_ | refine gL ?_ | refine gM hC rfl ⟨⟩ ?_ | refine gM hC rfl (by exact sd) ?_
    (refine lwp_cond hC rfl (by first | exact ⟨⟩ | exact sd) (fun hb => ?_) (fun hb => ?_) <;> (try simp only [decide_eq_true_eq, decide_eq_false_iff_not, Bool.not_eq_true', Bool.not_eq_false', ne_eq, Decidable.not_not] at hb))
    · repeat first | refine lwp_seq fun K hK => ?_ | ((with_reducible refine gA ?_); apply_assumption -exfalso -symm) | refine gB ?_ | refine gC ?_ | refine gD ?_ | refine gE ?_ | refine gF rfl ?_ | refine gG rfl ?_ | refine gH ?_ | refine gI ?_ | refine gJ ?_ | refine gK ?_ | refine gL ?_ | refine gM hC rfl ⟨⟩ ?_ | refine gM hC rfl (by exact sd) ?_
      refine gA ⟨k + 1, ?_, ?_, sub_intro hm [(0, some 0), (1, some 5)] rfl ?_⟩
      · omega
      · omega
      · have e := prC_snoc (l.take k) (l.getD (k : Int).toNat (0, 0))
        rw [show ((k : Int)).toNat = k from Int.toNat_natCast k, ← take_snoc _ _ _ (by omega)] at e
        have e2 : (prC (l.take (k + 1))).cells = (catC (prC (l.take k)) (Cont.exp [.lit (.int .i64 (l.getD (k : Int).toNat (0, 0)).1), .lit (.int .i64 (l.getD (k : Int).toNat (0, 0)).2)])).cells := by
          rw [catC_cells, show ((k : Int)).toNat = k from Int.toNat_natCast k, e]; rfl
        exact sd
    · repeat first | refine lwp_seq fun K hK => ?_ | ((with_reducible refine gA ?_); apply_assumption -exfalso -symm) | refine gB ?_ | refine gC ?_ | refine gD ?_ | refine gE ?_ | refine gF rfl ?_ | refine gG rfl ?_ | refine gH ?_ | refine gI ?_ | refine gJ ?_ | refine gK ?_ | refine gL ?_ | refine gM hC rfl ⟨⟩ ?_ | refine gM hC rfl (by exact sd) ?_
      (refine end_intro (by first | exact .inr rfl | exact .inl rfl) [(1, some 1)] rfl ?_)
      obtain rfl : k = l.length := by omega
      rw [List.take_of_length_le (by omega)]
      exact sd

end Go.Proofs.YtfmnfagcbehmdaaGreatDoor

namespace Go.Proofs.YtfmnfagcbehmdaaGreatDoor
open Go.RowKit Go.Sym

def Own_i (m s : List Th) (σ : Ren) : Inst := { f := 13, hin := rideIn m s, args := [rdA m s], hout := [(2, .row 144 m.length 2 (thC m)), (3, .row 145 s.length 2 (thC s))], ret := .agg [.sl 2 m.length, .sl 3 s.length], σ := σ }
set_option maxRecDepth 20000 in
set_option maxHeartbeats 4000000 in
theorem Own_s (m s : List Th) (σ : Ren) (hm' : m.length ≤ 1000000) (hs : s.length ≤ 1000000) : (Own_i m s σ).ok Tryz.prog := by
  unfold Own_i Inst.ok; dsimp only; refine spec_of_body (tys := tys) 2 Tryz.func13 (by kernel_rfl) rfl tys_ok rfl (Nat.le_of_ble_eq_true rfl) (fun _ _ h => (by cases h)) fun F hP hm hC hrd => ?_; conv => whnf
  repeat first | refine lwp_seq fun K hK => ?_ | ((with_reducible refine gA ?_); apply_assumption -exfalso -symm) | refine gB ?_ | refine gC ?_ | refine gD ?_ | refine gE ?_ | refine gF rfl ?_ | refine gG rfl ?_ | refine gH ?_ | refine gI ?_ | refine gJ ?_ | refine gK ?_ | refine gL ?_ | refine gM hC rfl ⟨⟩ ?_ | refine gM hC rfl (by exact sd) ?_
  refine lwp_loop (fun k : Nat => ⟨[(11, i64 k), (10, i64 m.length), (9, .sl 0 m.length), (1, .ptr 2 0 0 0), (2, .ptr 3 0 0 0), (3, .ptr 4 0 0 0)], [(5, .row 144 k 2 (thC (m.take k))), (4, .blk 38 [.sl 5 k, .lit (.slice none 0 0)]), (3, .blk 38 [.lit (.slice none 0 0), .lit (.slice none 0 0)]), (2, .blk 25 [.sl 0 m.length, .sl 1 s.length]), (0, .ro m.length 2 (thC m)), (1, .ro s.length 2 (thC s))], 6⟩) (fun k => k ≤ m.length) (fun k => m.length - k) 0 ⟨?_, sub_intro hm [(0, some 0), (1, some 1), (2, some 2), (3, some 3), (4, some 4), (5, none)] rfl ?_⟩ ?_
  · exact Nat.zero_le _
  · exact sd
  · rintro k hk
    repeat first | refine lwp_seq fun K hK => ?_ | ((with_reducible refine gA ?_); apply_assumption -exfalso -symm) | refine gB ?_ | refine gC ?_ | refine gD ?_ | refine gE ?_ | refine gF rfl ?_ | refine gG rfl ?_ | refine gH ?_ | refine gI ?_ | refine gJ ?_ | refine gK ?_ | refine gL ?_ | refine gM hC rfl ⟨⟩ ?_ | refine gM hC rfl (by exact sd) ?_
    (refine lwp_cond hC rfl (by first | exact ⟨⟩ | exact sd) (fun hb => ?_) (fun hb => ?_) <;> (try simp only [decide_eq_true_eq, decide_eq_false_iff_not, Bool.not_eq_true', Bool.not_eq_false', ne_eq, Decidable.not_not] at hb))
    · repeat first | refine lwp_seq fun K hK => ?_ | ((with_reducible refine gA ?_); apply_assumption -exfalso -symm) | refine gB ?_ | refine gC ?_ | refine gD ?_ | refine gE ?_ | refine gF rfl ?_ | refine gG rfl ?_ | refine gH ?_ | refine gI ?_ | refine gJ ?_ | refine gK ?_ | refine gL ?_ | refine gM hC rfl ⟨⟩ ?_ | refine gM hC rfl (by exact sd) ?_
      refine gA ⟨k + 1, ?_, ?_, sub_intro hm [(0, some 0), (1, some 1), (2, some 2), (3, some 3), (4, some 4), (5, some 9)] rfl ?_⟩
      · omega
      · omega
      · have e := thC_snoc (m.take k) (m.getD k thD)
        rw [← take_snoc _ _ _ (by omega)] at e
        have e2 : (thC (m.take (k + 1))).cells = (catC (thC (m.take k)) (Cont.exp [.lit (.string (m.getD (k : Int).toNat thD).kind), .lit (.int .i64 (m.getD (k : Int).toNat thD).place)])).cells := by
          rw [catC_cells, show ((k : Int)).toNat = k from Int.toNat_natCast k, e]; rfl
        exact sd
    · obtain rfl : k = m.length := by omega
      rw [List.take_of_length_le (Nat.le_refl _)]
      repeat first | refine lwp_seq fun K hK => ?_ | ((with_reducible refine gA ?_); apply_assumption -exfalso -symm) | refine gB ?_ | refine gC ?_ | refine gD ?_ | refine gE ?_ | refine gF rfl ?_ | refine gG rfl ?_ | refine gH ?_ | refine gI ?_ | refine gJ ?_ | refine gK ?_ | refine gL ?_ | refine gM hC rfl ⟨⟩ ?_ | refine gM hC rfl (by exact sd) ?_
      refine lwp_loop (fun k : Nat => ⟨[(25, i64 k), (24, i64 s.length), (23, .sl 1 s.length), (1, .ptr 2 0 0 0), (2, .ptr 3 0 0 0), (3, .ptr 4 0 0 0)], [(6, .row 145 k 2 (thC (s.take k))), (5, .row 144 m.length 2 (thC m)), (4, .blk 38 [.sl 5 m.length, .sl 6 k]), (3, .blk 38 [.lit (.slice none 0 0), .lit (.slice none 0 0)]), (2, .blk 25 [.sl 0 m.length, .sl 1 s.length]), (0, .ro m.length 2 (thC m)), (1, .ro s.length 2 (thC s))], 7⟩) (fun k => k ≤ s.length) (fun k => s.length - k) 0 ⟨?_, sub_intro hm [(0, some 0), (1, some 1), (2, some 2), (3, some 3), (4, some 4), (5, some 5), (6, none)] rfl ?_⟩ ?_
      · exact Nat.zero_le _
      · exact sd
      · rintro k hk
        repeat first | refine lwp_seq fun K hK => ?_ | ((with_reducible refine gA ?_); apply_assumption -exfalso -symm) | refine gB ?_ | refine gC ?_ | refine gD ?_ | refine gE ?_ | refine gF rfl ?_ | refine gG rfl ?_ | refine gH ?_ | refine gI ?_ | refine gJ ?_ | refine gK ?_ | refine gL ?_ | refine gM hC rfl ⟨⟩ ?_ | refine gM hC rfl (by exact sd) ?_
        (refine lwp_cond hC rfl (by first | exact ⟨⟩ | exact sd) (fun hb => ?_) (fun hb => ?_) <;> (try simp only [decide_eq_true_eq, decide_eq_false_iff_not, Bool.not_eq_true', Bool.not_eq_false', ne_eq, Decidable.not_not] at hb))
        · repeat first | refine lwp_seq fun K hK => ?_ | ((with_reducible refine gA ?_); apply_assumption -exfalso -symm) | refine gB ?_ | refine gC ?_ | refine gD ?_ | refine gE ?_ | refine gF rfl ?_ | refine gG rfl ?_ | refine gH ?_ | refine gI ?_ | refine gJ ?_ | refine gK ?_ | refine gL ?_ | refine gM hC rfl ⟨⟩ ?_ | refine gM hC rfl (by exact sd) ?_
          refine gA ⟨k + 1, ?_, ?_, sub_intro hm [(0, some 0), (1, some 1), (2, some 2), (3, some 3), (4, some 4), (5, some 5), (6, some 10)] rfl ?_⟩
          · omega
          · omega
          · have e := thC_snoc (s.take k) (s.getD k thD)
            rw [← take_snoc _ _ _ (by omega)] at e
            have e2 : (thC (s.take (k + 1))).cells = (catC (thC (s.take k)) (Cont.exp [.lit (.string (s.getD (k : Int).toNat thD).kind), .lit (.int .i64 (s.getD (k : Int).toNat thD).place)])).cells := by
              rw [catC_cells, show ((k : Int)).toNat = k from Int.toNat_natCast k, e]; rfl
            exact sd
        · repeat first | refine lwp_seq fun K hK => ?_ | ((with_reducible refine gA ?_); apply_assumption -exfalso -symm) | refine gB ?_ | refine gC ?_ | refine gD ?_ | refine gE ?_ | refine gF rfl ?_ | refine gG rfl ?_ | refine gH ?_ | refine gI ?_ | refine gJ ?_ | refine gK ?_ | refine gL ?_ | refine gM hC rfl ⟨⟩ ?_ | refine gM hC rfl (by exact sd) ?_
          (refine end_intro (by first | exact .inr rfl | exact .inl rfl) [(2, some 5), (3, some 6)] rfl ?_)
          obtain rfl : k = s.length := by omega
          rw [List.take_of_length_le (Nat.le_refl _)]
          exact sd

end Go.Proofs.YtfmnfagcbehmdaaGreatDoor

namespace Go.Proofs.YtfmnfagcbehmdaaGreatDoor
open Go.RowKit Go.Sym

def lcheckS (m s : List Th) (l : List (Int × Int)) : Int := if rideS m s = 0 then rpairsS m s l else rideS m s
theorem lcheck_eq (m s : List Th) (l : List (Int × Int)) : lcheckS m s l = checkPairsS m s l := by
  unfold lcheckS checkPairsS frontS rpairsS
  by_cases h : rideS m s = 0
  · rw [if_pos h, h]
    by_cases h2 : 64 < l.length
    · rw [if_pos h2, decide_eq_true (show (64 : Int) < (l.length : Int) by omega)]
      rfl
    · rw [if_neg h2, decide_eq_false (show ¬ (64 : Int) < (l.length : Int) by omega)]
      rfl
  · rw [if_neg h]
    have e : firstS [rideS m s, whenS (decide (64 < (l.length : Int))) 5] = rideS m s := by simp only [firstS, if_neg h]
    rw [e, if_neg h]

def shortPS (l : List (Int × Int)) : Bool := bif decide ((l.length : Int) ≤ 9) then true else decide ((l.length : Int) = 65)
def ShortP_i (l : List (Int × Int)) (σ : Ren) : Inst := { f := 31, hin := [(0, .ro l.length 2 (prC l))], args := [.sl 0 l.length], hout := [], ret := bl (shortPS l), σ := σ }
theorem ShortP_s (l : List (Int × Int)) (σ : Ren) (hl : l.length ≤ 9223372036854775807) : (ShortP_i l σ).ok Tryz.prog := by
  unfold ShortP_i Inst.ok; dsimp only; refine spec_of_body (tys := tys) 1 Tryz.func31 (by kernel_rfl) rfl tys_ok rfl (Nat.le_of_ble_eq_true rfl) (fun _ _ h => (by cases h)) fun F hP hm hC hrd => ?_; conv => whnf
  repeat first | refine lwp_seq fun K hK => ?_ | ((with_reducible refine gA ?_); apply_assumption -exfalso -symm) | refine gB ?_ | refine gC ?_ | refine gD ?_ | refine gE ?_ | refine gF rfl ?_ | refine gG rfl ?_ | refine gH ?_ | refine gI ?_ | refine gJ ?_ | refine gK ?_ | refine gL ?_ | refine gM hC rfl ⟨⟩ ?_ | refine gM hC rfl (by exact sd) ?_
  all_goals first | exact sd | skip
  (refine end_intro (by first | exact .inr rfl | exact .inl rfl) [] rfl ?_)
  exact ⟨rfl, trivial⟩

def numS (have' e bad want : Int) : Bool := bif decide (e = bad) then (bif (bif decide (bad ≠ 0) then decide (have' = 0) else false) then true else (bif decide (bad = 0) then decide (have' = want) else false)) else false
def Num_i (have' e bad want : Int) : Inst := { f := 30, hin := [], args := [i64 have', i64 e, i64 bad, i64 want], hout := [], ret := bl (numS have' e bad want), σ := [] }
set_option maxRecDepth 20000 in
theorem Num_s (have' e bad want : Int) : (Num_i have' e bad want).ok Tryz.prog := by
  unfold Num_i Inst.ok; dsimp only; refine spec_of_body (tys := tys) 0 Tryz.func30 (by kernel_rfl) rfl tys_ok rfl (Nat.le_of_ble_eq_true rfl) (fun _ _ h => (by cases h)) fun F hP hm hC hrd => ?_; conv => whnf
  repeat first | refine lwp_seq fun K hK => ?_ | ((with_reducible refine gA ?_); apply_assumption -exfalso -symm) | refine gB ?_ | refine gC ?_ | refine gD ?_ | refine gE ?_ | refine gF rfl ?_ | refine gG rfl ?_ | refine gH ?_ | refine gI ?_ | refine gJ ?_ | refine gK ?_ | refine gL ?_ | refine gM hC rfl ⟨⟩ ?_ | refine gM hC rfl (by exact sd) ?_
  all_goals first | exact sd | skip
  (refine end_intro (by first | exact .inr rfl | exact .inl rfl) [] rfl ?_)
  refine ⟨?_, trivial⟩
  rfl

end Go.Proofs.YtfmnfagcbehmdaaGreatDoor

namespace Go.Proofs.YtfmnfagcbehmdaaGreatDoor
open Go.RowKit Go.Sym

def kindS (l : List Th) : Bool := l.all fun t => decide (t.kind.size ≤ 40)
theorem kindS_drop (l : List Th) (k : Nat) (h : k < l.length) : kindS (l.drop k) = (decide ((l.getD k thD).kind.size ≤ 40) && kindS (l.drop (k + 1))) := by
  rw [List.drop_eq_getElem_cons h]
  simp only [kindS, List.all_cons, List.getD_eq_getElem?_getD, List.getElem?_eq_getElem h, Option.getD_some]
def lenS (m s : List Th) : Bool := bif (bif decide ((m.length : Int) ≤ 8) then true else decide ((m.length : Int) = 65)) then (bif decide ((s.length : Int) ≤ 8) then true else decide ((s.length : Int) = 65)) else false
def shortS (m s : List Th) : Bool := kindS m && (kindS s && lenS m s)
def Short_i (m s : List Th) (σ : Ren) : Inst := { f := 9, hin := rideIn m s, args := [rdA m s], hout := [], ret := bl (shortS m s), σ := σ }
set_option maxRecDepth 20000 in
set_option maxHeartbeats 4000000 in
theorem Short_s (m s : List Th) (σ : Ren) (hm' : m.length ≤ 9223372036854775807) (hs : s.length ≤ 9223372036854775807) : (Short_i m s σ).ok Tryz.prog := by
  unfold Short_i Inst.ok; dsimp only; refine spec_of_body (tys := tys) 2 Tryz.func9 (by kernel_rfl) rfl tys_ok rfl (Nat.le_of_ble_eq_true rfl) (fun _ _ h => (by cases h)) fun F hP hm hC hrd => ?_; conv => whnf
  repeat first | refine lwp_seq fun K hK => ?_ | ((with_reducible refine gA ?_); apply_assumption -exfalso -symm) | refine gB ?_ | refine gC ?_ | refine gD ?_ | refine gE ?_ | refine gF rfl ?_ | refine gG rfl ?_ | refine gH ?_ | refine gI ?_ | refine gJ ?_ | refine gK ?_ | refine gL ?_ | refine gM hC rfl ⟨⟩ ?_ | refine gM hC rfl (by exact sd) ?_
  refine lwp_loop (fun k : Nat => ⟨[(3, i64 k), (1, .ptr 2 0 0 0)], [(2, .blk 25 [.sl 0 m.length, .sl 1 s.length]), (0, .ro m.length 2 (thC m)), (1, .ro s.length 2 (thC s))], 3⟩) (fun k => k ≤ m.length ∧ kindS m = kindS (m.drop k)) (fun k => m.length - k) 0 ⟨?_, sub_intro hm [(0, some 0), (1, some 1), (2, some 2)] rfl ?_⟩ ?_
  · exact ⟨Nat.zero_le _, rfl⟩
  · exact sd
  · rintro k ⟨hk, hf⟩
    repeat first | refine lwp_seq fun K hK => ?_ | ((with_reducible refine gA ?_); apply_assumption -exfalso -symm) | refine gB ?_ | refine gC ?_ | refine gD ?_ | refine gE ?_ | refine gF rfl ?_ | refine gG rfl ?_ | refine gH ?_ | refine gI ?_ | refine gJ ?_ | refine gK ?_ | refine gL ?_ | refine gM hC rfl ⟨⟩ ?_ | refine gM hC rfl (by exact sd) ?_
    (refine lwp_cond hC rfl (by first | exact ⟨⟩ | exact sd) (fun hb => ?_) (fun hb => ?_) <;> (try simp only [decide_eq_true_eq, decide_eq_false_iff_not, Bool.not_eq_true', Bool.not_eq_false', ne_eq, Decidable.not_not] at hb))
    · have hkm : k < m.length := by omega
      have hD := kindS_drop m k hkm
      repeat first | refine lwp_seq fun K hK => ?_ | ((with_reducible refine gA ?_); apply_assumption -exfalso -symm) | refine gB ?_ | refine gC ?_ | refine gD ?_ | refine gE ?_ | refine gF rfl ?_ | refine gG rfl ?_ | refine gH ?_ | refine gI ?_ | refine gJ ?_ | refine gK ?_ | refine gL ?_ | refine gM hC rfl ⟨⟩ ?_ | refine gM hC rfl (by exact sd) ?_
      (refine lwp_cond hC rfl (by first | exact ⟨⟩ | exact sd) (fun hb => ?_) (fun hb => ?_) <;> (try simp only [decide_eq_true_eq, decide_eq_false_iff_not, Bool.not_eq_true', Bool.not_eq_false', ne_eq, Decidable.not_not] at hb))
      · rw [Int.toNat_natCast] at hb
        repeat first | refine lwp_seq fun K hK => ?_ | ((with_reducible refine gA ?_); apply_assumption -exfalso -symm) | refine gB ?_ | refine gC ?_ | refine gD ?_ | refine gE ?_ | refine gF rfl ?_ | refine gG rfl ?_ | refine gH ?_ | refine gI ?_ | refine gJ ?_ | refine gK ?_ | refine gL ?_ | refine gM hC rfl ⟨⟩ ?_ | refine gM hC rfl (by exact sd) ?_
        (refine end_intro (by first | exact .inr rfl | exact .inl rfl) [] rfl ?_)
        refine ⟨?_, trivial⟩
        show shortS m s = false
        unfold shortS
        rw [hf, hD, decide_eq_false (by omega)]
        rfl
      · rw [Int.toNat_natCast] at hb
        repeat first | refine lwp_seq fun K hK => ?_ | ((with_reducible refine gA ?_); apply_assumption -exfalso -symm) | refine gB ?_ | refine gC ?_ | refine gD ?_ | refine gE ?_ | refine gF rfl ?_ | refine gG rfl ?_ | refine gH ?_ | refine gI ?_ | refine gJ ?_ | refine gK ?_ | refine gL ?_ | refine gM hC rfl ⟨⟩ ?_ | refine gM hC rfl (by exact sd) ?_
        refine gA ⟨k + 1, ?_, ?_, sub_intro hm [(0, some 0), (1, some 1), (2, some 2)] rfl ?_⟩
        · exact ⟨by omega, by rw [hf, hD, decide_eq_true (by omega)]; rfl⟩
        · omega
        · exact sd
    · have hM : kindS m = true := by rw [hf, List.drop_of_length_le (by omega)]; rfl
      clear hf
      repeat first | refine lwp_seq fun K hK => ?_ | ((with_reducible refine gA ?_); apply_assumption -exfalso -symm) | refine gB ?_ | refine gC ?_ | refine gD ?_ | refine gE ?_ | refine gF rfl ?_ | refine gG rfl ?_ | refine gH ?_ | refine gI ?_ | refine gJ ?_ | refine gK ?_ | refine gL ?_ | refine gM hC rfl ⟨⟩ ?_ | refine gM hC rfl (by exact sd) ?_
      refine lwp_loop (fun k : Nat => ⟨[(4, i64 k), (1, .ptr 2 0 0 0)], [(2, .blk 25 [.sl 0 m.length, .sl 1 s.length]), (0, .ro m.length 2 (thC m)), (1, .ro s.length 2 (thC s))], 3⟩) (fun k => k ≤ s.length ∧ kindS s = kindS (s.drop k)) (fun k => s.length - k) 0 ⟨?_, sub_intro hm [(0, some 0), (1, some 1), (2, some 2)] rfl ?_⟩ ?_
      · exact ⟨Nat.zero_le _, rfl⟩
      · exact sd
      · clear hk
        rintro k ⟨hk, hf⟩
        repeat first | refine lwp_seq fun K hK => ?_ | ((with_reducible refine gA ?_); apply_assumption -exfalso -symm) | refine gB ?_ | refine gC ?_ | refine gD ?_ | refine gE ?_ | refine gF rfl ?_ | refine gG rfl ?_ | refine gH ?_ | refine gI ?_ | refine gJ ?_ | refine gK ?_ | refine gL ?_ | refine gM hC rfl ⟨⟩ ?_ | refine gM hC rfl (by exact sd) ?_
        (refine lwp_cond hC rfl (by first | exact ⟨⟩ | exact sd) (fun hb => ?_) (fun hb => ?_) <;> (try simp only [decide_eq_true_eq, decide_eq_false_iff_not, Bool.not_eq_true', Bool.not_eq_false', ne_eq, Decidable.not_not] at hb))
        · have hkm : k < s.length := by omega
          have hD := kindS_drop s k hkm
          repeat first | refine lwp_seq fun K hK => ?_ | ((with_reducible refine gA ?_); apply_assumption -exfalso -symm) | refine gB ?_ | refine gC ?_ | refine gD ?_ | refine gE ?_ | refine gF rfl ?_ | refine gG rfl ?_ | refine gH ?_ | refine gI ?_ | refine gJ ?_ | refine gK ?_ | refine gL ?_ | refine gM hC rfl ⟨⟩ ?_ | refine gM hC rfl (by exact sd) ?_
          (refine lwp_cond hC rfl (by first | exact ⟨⟩ | exact sd) (fun hb => ?_) (fun hb => ?_) <;> (try simp only [decide_eq_true_eq, decide_eq_false_iff_not, Bool.not_eq_true', Bool.not_eq_false', ne_eq, Decidable.not_not] at hb))
          · rw [Int.toNat_natCast] at hb
            repeat first | refine lwp_seq fun K hK => ?_ | ((with_reducible refine gA ?_); apply_assumption -exfalso -symm) | refine gB ?_ | refine gC ?_ | refine gD ?_ | refine gE ?_ | refine gF rfl ?_ | refine gG rfl ?_ | refine gH ?_ | refine gI ?_ | refine gJ ?_ | refine gK ?_ | refine gL ?_ | refine gM hC rfl ⟨⟩ ?_ | refine gM hC rfl (by exact sd) ?_
            (refine end_intro (by first | exact .inr rfl | exact .inl rfl) [] rfl ?_)
            refine ⟨?_, trivial⟩
            show shortS m s = false
            unfold shortS
            rw [hM, hf, hD, decide_eq_false (by omega)]
            rfl
          · rw [Int.toNat_natCast] at hb
            repeat first | refine lwp_seq fun K hK => ?_ | ((with_reducible refine gA ?_); apply_assumption -exfalso -symm) | refine gB ?_ | refine gC ?_ | refine gD ?_ | refine gE ?_ | refine gF rfl ?_ | refine gG rfl ?_ | refine gH ?_ | refine gI ?_ | refine gJ ?_ | refine gK ?_ | refine gL ?_ | refine gM hC rfl ⟨⟩ ?_ | refine gM hC rfl (by exact sd) ?_
            refine gA ⟨k + 1, ?_, ?_, sub_intro hm [(0, some 0), (1, some 1), (2, some 2)] rfl ?_⟩
            · exact ⟨by omega, by rw [hf, hD, decide_eq_true (by omega)]; rfl⟩
            · omega
            · exact sd
        · have hS : kindS s = true := by rw [hf, List.drop_of_length_le (by omega)]; rfl
          have eS : shortS m s = lenS m s := by unfold shortS; rw [hM, hS]; rfl
          clear hf
          unfold Short_i at *
          repeat first | refine lwp_seq fun K hK => ?_ | ((with_reducible refine gA ?_); apply_assumption -exfalso -symm) | refine gB ?_ | refine gC ?_ | refine gD ?_ | refine gE ?_ | refine gF rfl ?_ | refine gG rfl ?_ | refine gH ?_ | refine gI ?_ | refine gJ ?_ | refine gK ?_ | refine gL ?_ | refine gM hC rfl ⟨⟩ ?_ | refine gM hC rfl (by exact sd) ?_
          all_goals first | exact sd | skip
          (refine end_intro (by first | exact .inr rfl | exact .inl rfl) [] rfl ?_)
          refine ⟨?_, trivial⟩
          show shortS m s = _
          rw [eS]
          rfl

end Go.Proofs.YtfmnfagcbehmdaaGreatDoor
