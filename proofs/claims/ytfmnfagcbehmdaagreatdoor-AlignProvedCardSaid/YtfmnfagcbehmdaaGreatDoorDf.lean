/- Chapter 5: things, rides, pairs: the program's checks. -/
import Derived.Test.YtfmnfagcbehmdaaGreatDoorDa
set_option linter.unusedVariables false
set_option linter.unusedSimpArgs false
namespace Go.Proofs.YtfmnfagcbehmdaaGreatDoor
open Go.RowKit Go.Sym

structure Th where
  kind : ByteArray
  place : Int
def thV (t : Th) : List Value := [.string t.kind, .int .i64 t.place]
def thD : Th := ⟨⟨#[]⟩, 0⟩
def thC (l : List Th) : Cont := genL thV thD 2 l
theorem thC_snoc (l : List Th) (x : Th) : (thC (l ++ [x])).cells = (thC l).cells ++ [.lit (.string x.kind), .lit (.int .i64 x.place)] := genL_snoc (f := thV) (fun _ => rfl) l x

def MThing_i (s : ByteArray) (n : Int) : Inst := { f := 89, hin := [], args := [.agg [.lit (.string s), i64 n]], hout := [], ret := .agg [.lit (.string s), i64 n], σ := [] }
theorem MThing_s (s : ByteArray) (n : Int) : (MThing_i s n).ok Tryz.prog := by
  unfold MThing_i Inst.ok; dsimp only; refine spec_of_body (tys := tys) 0 Tryz.func89 (by kernel_rfl) rfl tys_ok rfl (Nat.le_of_ble_eq_true rfl) (fun _ _ h => (by cases h)) fun F hP hm hC hrd => ?_; conv => whnf
  repeat first | refine lwp_seq fun K hK => ?_ | ((with_reducible refine gA ?_); apply_assumption -exfalso -symm) | refine gB ?_ | refine gC ?_ | refine gD ?_ | refine gE ?_ | refine gF rfl ?_ | refine gG rfl ?_ | refine gH ?_ | refine gI ?_ | refine gJ ?_ | refine gK ?_ | refine gL ?_ | refine gM hC rfl ⟨⟩ ?_ | refine gM hC rfl (by exact sd) ?_
  (refine end_intro (by first | exact .inr rfl | exact .inl rfl) [] rfl ?_)
  exact sd
def SThing_i (s : ByteArray) (n : Int) : Inst := { f := 90, hin := [], args := [.agg [.lit (.string s), i64 n]], hout := [], ret := .agg [.lit (.string s), i64 n], σ := [] }
theorem SThing_s (s : ByteArray) (n : Int) : (SThing_i s n).ok Tryz.prog := by
  unfold SThing_i Inst.ok; dsimp only; refine spec_of_body (tys := tys) 0 Tryz.func90 (by kernel_rfl) rfl tys_ok rfl (Nat.le_of_ble_eq_true rfl) (fun _ _ h => (by cases h)) fun F hP hm hC hrd => ?_; conv => whnf
  repeat first | refine lwp_seq fun K hK => ?_ | ((with_reducible refine gA ?_); apply_assumption -exfalso -symm) | refine gB ?_ | refine gC ?_ | refine gD ?_ | refine gE ?_ | refine gF rfl ?_ | refine gG rfl ?_ | refine gH ?_ | refine gI ?_ | refine gJ ?_ | refine gK ?_ | refine gL ?_ | refine gM hC rfl ⟨⟩ ?_ | refine gM hC rfl (by exact sd) ?_
  (refine end_intro (by first | exact .inr rfl | exact .inl rfl) [] rfl ?_)
  exact sd

def MMapped_i (l : List Th) (σ : Ren) : Inst := { f := 107, hin := [(0, .ro l.length 2 (thC l))], args := [.sl 0 l.length, .fn 89 [] []], hout := [(1, .row 174 l.length 2 (thC l))], ret := .sl 1 l.length, σ := σ }
theorem MMapped_s (l : List Th) (σ : Ren) (hl : l.length ≤ 1000000) : (MMapped_i l σ).ok Tryz.prog := by
  unfold MMapped_i Inst.ok; dsimp only; refine spec_of_body (tys := tys) 1 Tryz.func107 (by kernel_rfl) rfl tys_ok rfl (Nat.le_of_ble_eq_true rfl) (fun _ _ h => (by cases h)) fun F hP hm hC hrd => ?_; conv => whnf
  repeat first | refine lwp_seq fun K hK => ?_ | ((with_reducible refine gA ?_); apply_assumption -exfalso -symm) | refine gB ?_ | refine gC ?_ | refine gD ?_ | refine gE ?_ | refine gF rfl ?_ | refine gG rfl ?_ | refine gH ?_ | refine gI ?_ | refine gJ ?_ | refine gK ?_ | refine gL ?_ | refine gM hC rfl ⟨⟩ ?_ | refine gM hC rfl (by exact sd) ?_
  refine lwp_loop (fun k : Nat => ⟨[(10, i64 k), (9, i64 l.length), (8, .sl 0 l.length), (5, .sl 1 k), (1, .fn 89 [] [])], [(1, .row 174 k 2 (thC (l.take k))), (0, .ro l.length 2 (thC l))], 2⟩) (fun k => k ≤ l.length) (fun k => l.length - k) 0 ⟨?_, sub_intro hm [(0, some 0), (1, none)] rfl ?_⟩ ?_
  · exact Nat.zero_le _
  · exact sd
  · rintro k hk
    repeat first | refine lwp_seq fun K hK => ?_ | ((with_reducible refine gA ?_); apply_assumption -exfalso -symm) | refine gB ?_ | refine gC ?_ | refine gD ?_ | refine gE ?_ | refine gF rfl ?_ | refine gG rfl ?_ | refine gH ?_ | refine gI ?_ | refine gJ ?_ | refine gK ?_ | refine gL ?_ | refine gM hC rfl ⟨⟩ ?_ | refine gM hC rfl (by exact sd) ?_
    (refine lwp_cond hC rfl (by first | exact ⟨⟩ | exact sd) (fun hb => ?_) (fun hb => ?_) <;> (try simp only [decide_eq_true_eq, decide_eq_false_iff_not, Bool.not_eq_true', Bool.not_eq_false', ne_eq, Decidable.not_not] at hb))
    · repeat first | refine lwp_seq fun K hK => ?_ | ((with_reducible refine gA ?_); apply_assumption -exfalso -symm) | refine gB ?_ | refine gC ?_ | refine gD ?_ | refine gE ?_ | refine gF rfl ?_ | refine gG rfl ?_ | refine gH ?_ | refine gI ?_ | refine gJ ?_ | refine gK ?_ | refine gL ?_ | refine gM hC rfl ⟨⟩ ?_ | refine gM hC rfl (by exact sd) ?_
      (refine lwp_region hC ⟨[], [], [(3, MThing_i (l.getD k thD).kind (l.getD k thD).place)]⟩ (told1 _ (by rw [hP]; exact (calls_cons (MThing_s _ _) calls_nil))) rfl ?_ ?_; rotate_left 1)
      · repeat first | refine lwp_seq fun K hK => ?_ | ((with_reducible refine gA ?_); apply_assumption -exfalso -symm) | refine gB ?_ | refine gC ?_ | refine gD ?_ | refine gE ?_ | refine gF rfl ?_ | refine gG rfl ?_ | refine gH ?_ | refine gI ?_ | refine gJ ?_ | refine gK ?_ | refine gL ?_ | refine gM hC rfl ⟨⟩ ?_ | refine gM hC rfl (by exact sd) ?_
        refine gA ⟨k + 1, ?_, ?_, sub_intro hm [(0, some 0), (1, some 5)] rfl ?_⟩
        · omega
        · omega
        · have e := thC_snoc (l.take k) (l.getD k thD)
          rw [← take_snoc _ _ _ (by omega)] at e
          have e2 : (thC (l.take (k + 1))).cells = (catC (thC (l.take k)) (Cont.exp [.lit (.string (l.getD k thD).kind), .lit (.int .i64 (l.getD k thD).place)])).cells := by
            rw [catC_cells, e]; rfl
          exact sd
      · exact sd
    · repeat first | refine lwp_seq fun K hK => ?_ | ((with_reducible refine gA ?_); apply_assumption -exfalso -symm) | refine gB ?_ | refine gC ?_ | refine gD ?_ | refine gE ?_ | refine gF rfl ?_ | refine gG rfl ?_ | refine gH ?_ | refine gI ?_ | refine gJ ?_ | refine gK ?_ | refine gL ?_ | refine gM hC rfl ⟨⟩ ?_ | refine gM hC rfl (by exact sd) ?_
      (refine end_intro (by first | exact .inr rfl | exact .inl rfl) [(1, some 1)] rfl ?_)
      obtain rfl : k = l.length := by omega
      rw [List.take_of_length_le (by omega)]
      exact sd
def SMapped_i (l : List Th) (σ : Ren) : Inst := { f := 108, hin := [(0, .ro l.length 2 (thC l))], args := [.sl 0 l.length, .fn 90 [] []], hout := [(1, .row 174 l.length 2 (thC l))], ret := .sl 1 l.length, σ := σ }
theorem SMapped_s (l : List Th) (σ : Ren) (hl : l.length ≤ 1000000) : (SMapped_i l σ).ok Tryz.prog := by
  unfold SMapped_i Inst.ok; dsimp only; refine spec_of_body (tys := tys) 1 Tryz.func108 (by kernel_rfl) rfl tys_ok rfl (Nat.le_of_ble_eq_true rfl) (fun _ _ h => (by cases h)) fun F hP hm hC hrd => ?_; conv => whnf
  repeat first | refine lwp_seq fun K hK => ?_ | ((with_reducible refine gA ?_); apply_assumption -exfalso -symm) | refine gB ?_ | refine gC ?_ | refine gD ?_ | refine gE ?_ | refine gF rfl ?_ | refine gG rfl ?_ | refine gH ?_ | refine gI ?_ | refine gJ ?_ | refine gK ?_ | refine gL ?_ | refine gM hC rfl ⟨⟩ ?_ | refine gM hC rfl (by exact sd) ?_
  refine lwp_loop (fun k : Nat => ⟨[(10, i64 k), (9, i64 l.length), (8, .sl 0 l.length), (5, .sl 1 k), (1, .fn 90 [] [])], [(1, .row 174 k 2 (thC (l.take k))), (0, .ro l.length 2 (thC l))], 2⟩) (fun k => k ≤ l.length) (fun k => l.length - k) 0 ⟨?_, sub_intro hm [(0, some 0), (1, none)] rfl ?_⟩ ?_
  · exact Nat.zero_le _
  · exact sd
  · rintro k hk
    repeat first | refine lwp_seq fun K hK => ?_ | ((with_reducible refine gA ?_); apply_assumption -exfalso -symm) | refine gB ?_ | refine gC ?_ | refine gD ?_ | refine gE ?_ | refine gF rfl ?_ | refine gG rfl ?_ | refine gH ?_ | refine gI ?_ | refine gJ ?_ | refine gK ?_ | refine gL ?_ | refine gM hC rfl ⟨⟩ ?_ | refine gM hC rfl (by exact sd) ?_
    (refine lwp_cond hC rfl (by first | exact ⟨⟩ | exact sd) (fun hb => ?_) (fun hb => ?_) <;> (try simp only [decide_eq_true_eq, decide_eq_false_iff_not, Bool.not_eq_true', Bool.not_eq_false', ne_eq, Decidable.not_not] at hb))
    · repeat first | refine lwp_seq fun K hK => ?_ | ((with_reducible refine gA ?_); apply_assumption -exfalso -symm) | refine gB ?_ | refine gC ?_ | refine gD ?_ | refine gE ?_ | refine gF rfl ?_ | refine gG rfl ?_ | refine gH ?_ | refine gI ?_ | refine gJ ?_ | refine gK ?_ | refine gL ?_ | refine gM hC rfl ⟨⟩ ?_ | refine gM hC rfl (by exact sd) ?_
      (refine lwp_region hC ⟨[], [], [(3, SThing_i (l.getD k thD).kind (l.getD k thD).place)]⟩ (told1 _ (by rw [hP]; exact (calls_cons (SThing_s _ _) calls_nil))) rfl ?_ ?_; rotate_left 1)
      · repeat first | refine lwp_seq fun K hK => ?_ | ((with_reducible refine gA ?_); apply_assumption -exfalso -symm) | refine gB ?_ | refine gC ?_ | refine gD ?_ | refine gE ?_ | refine gF rfl ?_ | refine gG rfl ?_ | refine gH ?_ | refine gI ?_ | refine gJ ?_ | refine gK ?_ | refine gL ?_ | refine gM hC rfl ⟨⟩ ?_ | refine gM hC rfl (by exact sd) ?_
        refine gA ⟨k + 1, ?_, ?_, sub_intro hm [(0, some 0), (1, some 5)] rfl ?_⟩
        · omega
        · omega
        · have e := thC_snoc (l.take k) (l.getD k thD)
          rw [← take_snoc _ _ _ (by omega)] at e
          have e2 : (thC (l.take (k + 1))).cells = (catC (thC (l.take k)) (Cont.exp [.lit (.string (l.getD k thD).kind), .lit (.int .i64 (l.getD k thD).place)])).cells := by
            rw [catC_cells, e]; rfl
          exact sd
      · exact sd
    · repeat first | refine lwp_seq fun K hK => ?_ | ((with_reducible refine gA ?_); apply_assumption -exfalso -symm) | refine gB ?_ | refine gC ?_ | refine gD ?_ | refine gE ?_ | refine gF rfl ?_ | refine gG rfl ?_ | refine gH ?_ | refine gI ?_ | refine gJ ?_ | refine gK ?_ | refine gL ?_ | refine gM hC rfl ⟨⟩ ?_ | refine gM hC rfl (by exact sd) ?_
      (refine end_intro (by first | exact .inr rfl | exact .inl rfl) [(1, some 1)] rfl ?_)
      obtain rfl : k = l.length := by omega
      rw [List.take_of_length_le (by omega)]
      exact sd

def thS (x : Th) (last : Int) : Int := firstS [whenS (!nameOk x.kind) 13, withinS x.place 0 100000000, whenS (decide (x.place ≤ last)) 11]
def thingsS : List Th → Int → Int
  | [], _ => 0
  | x :: l, last => if thS x last = 0 then thingsS l x.place else thS x last
def checkS (l : List Th) : Int := if 64 < l.length then 5 else thingsS l (-1)
def lastP (l : List Th) : Nat → Int
  | 0 => -1
  | k + 1 => (l.getD k thD).place
theorem thingsS_drop (l : List Th) (k : Nat) (h : k < l.length) : thingsS (l.drop k) (lastP l k) = if thS (l.getD k thD) (lastP l k) = 0 then thingsS (l.drop (k + 1)) (lastP l (k + 1)) else thS (l.getD k thD) (lastP l k) := by
  rw [List.drop_eq_getElem_cons h]
  simp only [thingsS, lastP, List.getD_eq_getElem?_getD, List.getElem?_eq_getElem h, Option.getD_some]

end Go.Proofs.YtfmnfagcbehmdaaGreatDoor

namespace Go.Proofs.YtfmnfagcbehmdaaGreatDoor
open Go.RowKit Go.Sym

def Things_i (l : List Th) (σ : Ren) : Inst := { f := 127, hin := [(0, .ro l.length 2 (thC l))], args := [.sl 0 l.length, i64 64], hout := [], ret := i64 (checkS l), σ := σ }
theorem Things_s (l : List Th) (σ : Ren) (hl : l.length ≤ 1000000) : (Things_i l σ).ok Tryz.prog := by
  unfold Things_i Inst.ok; dsimp only; refine spec_of_body (tys := tys) 1 Tryz.func127 (by kernel_rfl) rfl tys_ok rfl (Nat.le_of_ble_eq_true rfl) (fun _ _ h => (by cases h)) fun F hP hm hC hrd => ?_; conv => whnf
  repeat first | refine lwp_seq fun K hK => ?_ | ((with_reducible refine gA ?_); apply_assumption -exfalso -symm) | refine gB ?_ | refine gC ?_ | refine gD ?_ | refine gE ?_ | refine gF rfl ?_ | refine gG rfl ?_ | refine gH ?_ | refine gI ?_ | refine gJ ?_ | refine gK ?_ | refine gL ?_ | refine gM hC rfl ⟨⟩ ?_ | refine gM hC rfl (by exact sd) ?_
  (refine lwp_cond hC rfl (by first | exact ⟨⟩ | exact sd) (fun hb => ?_) (fun hb => ?_) <;> (try simp only [decide_eq_true_eq, decide_eq_false_iff_not, Bool.not_eq_true', Bool.not_eq_false', ne_eq, Decidable.not_not] at hb))
  · repeat first | refine lwp_seq fun K hK => ?_ | ((with_reducible refine gA ?_); apply_assumption -exfalso -symm) | refine gB ?_ | refine gC ?_ | refine gD ?_ | refine gE ?_ | refine gF rfl ?_ | refine gG rfl ?_ | refine gH ?_ | refine gI ?_ | refine gJ ?_ | refine gK ?_ | refine gL ?_ | refine gM hC rfl ⟨⟩ ?_ | refine gM hC rfl (by exact sd) ?_
    (refine end_intro (by first | exact .inr rfl | exact .inl rfl) [] rfl ?_)
    refine ⟨?_, trivial⟩
    unfold checkS
    rw [if_pos (by omega)]
  · repeat first | refine lwp_seq fun K hK => ?_ | ((with_reducible refine gA ?_); apply_assumption -exfalso -symm) | refine gB ?_ | refine gC ?_ | refine gD ?_ | refine gE ?_ | refine gF rfl ?_ | refine gG rfl ?_ | refine gH ?_ | refine gI ?_ | refine gJ ?_ | refine gK ?_ | refine gL ?_ | refine gM hC rfl ⟨⟩ ?_ | refine gM hC rfl (by exact sd) ?_
    refine lwp_loop (fun k : Nat => ⟨[(15, i64 k), (14, i64 l.length), (13, .sl 0 l.length), (5, i64 (lastP l k))], [(0, .ro l.length 2 (thC l))], 1⟩) (fun k => k ≤ l.length ∧ thingsS l (-1) = thingsS (l.drop k) (lastP l k)) (fun k => l.length - k) 0 ⟨?_, sub_intro hm [(0, some 0)] rfl ?_⟩ ?_
    · exact ⟨Nat.zero_le _, rfl⟩
    · exact sd
    · rintro k ⟨hk, hf⟩
      repeat first | refine lwp_seq fun K hK => ?_ | ((with_reducible refine gA ?_); apply_assumption -exfalso -symm) | refine gB ?_ | refine gC ?_ | refine gD ?_ | refine gE ?_ | refine gF rfl ?_ | refine gG rfl ?_ | refine gH ?_ | refine gI ?_ | refine gJ ?_ | refine gK ?_ | refine gL ?_ | refine gM hC rfl ⟨⟩ ?_ | refine gM hC rfl (by exact sd) ?_
      (refine lwp_cond hC rfl (by first | exact ⟨⟩ | exact sd) (fun hb => ?_) (fun hb => ?_) <;> (try simp only [decide_eq_true_eq, decide_eq_false_iff_not, Bool.not_eq_true', Bool.not_eq_false', ne_eq, Decidable.not_not] at hb))
      · repeat first | refine lwp_seq fun K hK => ?_ | ((with_reducible refine gA ?_); apply_assumption -exfalso -symm) | refine gB ?_ | refine gC ?_ | refine gD ?_ | refine gE ?_ | refine gF rfl ?_ | refine gG rfl ?_ | refine gH ?_ | refine gI ?_ | refine gJ ?_ | refine gK ?_ | refine gL ?_ | refine gM hC rfl ⟨⟩ ?_ | refine gM hC rfl (by exact sd) ?_
        (refine lwp_drawn hC (by rw [hP]; exact mixed) ⟨[], [], [(2, SName_i (l.getD k thD).kind), (4, AWhen_i (!nameOk (l.getD k thD).kind) 13), (7, AWithin_i (l.getD k thD).place 0 100000000), (12, AWhen_i (decide ((l.getD k thD).place ≤ lastP l k)) 11), (14, AFirst_i [whenS (!nameOk (l.getD k thD).kind) 13, withinS (l.getD k thD).place 0 100000000, whenS (decide ((l.getD k thD).place ≤ lastP l k)) 11] [(0, some 3)])]⟩ (told1 _ (by rw [hP]; exact (calls_cons (SName_s _) (calls_cons (AWhen_s _ _) (calls_cons (AWithin_s _ _ _) (calls_cons (AWhen_s _ _) (calls_cons (AFirst_s _ _ (by simp)) calls_nil))))))) [0, 1, 3, 7, 15, 0, 32, 127, 0, 256, 0, 1792, 4095, 8191, 16383, 32767] 12 rfl ?_ ?_; rotate_left 1)
        · repeat first | refine lwp_seq fun K hK => ?_ | ((with_reducible refine gA ?_); apply_assumption -exfalso -symm) | refine gB ?_ | refine gC ?_ | refine gD ?_ | refine gE ?_ | refine gF rfl ?_ | refine gG rfl ?_ | refine gH ?_ | refine gI ?_ | refine gJ ?_ | refine gK ?_ | refine gL ?_ | refine gM hC rfl ⟨⟩ ?_ | refine gM hC rfl (by exact sd) ?_
          (refine lwp_cond hC rfl (by first | exact ⟨⟩ | exact sd) (fun hb => ?_) (fun hb => ?_) <;> (try simp only [decide_eq_true_eq, decide_eq_false_iff_not, Bool.not_eq_true', Bool.not_eq_false', ne_eq, Decidable.not_not] at hb))
          · repeat first | refine lwp_seq fun K hK => ?_ | ((with_reducible refine gA ?_); apply_assumption -exfalso -symm) | refine gB ?_ | refine gC ?_ | refine gD ?_ | refine gE ?_ | refine gF rfl ?_ | refine gG rfl ?_ | refine gH ?_ | refine gI ?_ | refine gJ ?_ | refine gK ?_ | refine gL ?_ | refine gM hC rfl ⟨⟩ ?_ | refine gM hC rfl (by exact sd) ?_
            (refine end_intro (by first | exact .inr rfl | exact .inl rfl) [] rfl ?_)
            refine ⟨?_, trivial⟩
            unfold checkS
            rw [if_neg (by omega), hf, thingsS_drop l k (by omega), if_neg (show ¬ thS (l.getD k thD) (lastP l k) = 0 from hb)]
            rfl
          · repeat first | refine lwp_seq fun K hK => ?_ | ((with_reducible refine gA ?_); apply_assumption -exfalso -symm) | refine gB ?_ | refine gC ?_ | refine gD ?_ | refine gE ?_ | refine gF rfl ?_ | refine gG rfl ?_ | refine gH ?_ | refine gI ?_ | refine gJ ?_ | refine gK ?_ | refine gL ?_ | refine gM hC rfl ⟨⟩ ?_ | refine gM hC rfl (by exact sd) ?_
            refine gA ⟨k + 1, ?_, ?_, sub_intro hm [(0, some 0)] rfl ?_⟩
            · exact ⟨by omega, by rw [hf, thingsS_drop l k (by omega), if_pos (show thS (l.getD k thD) (lastP l k) = 0 from hb)]⟩
            · omega
            · exact sd
        · exact sd
      · repeat first | refine lwp_seq fun K hK => ?_ | ((with_reducible refine gA ?_); apply_assumption -exfalso -symm) | refine gB ?_ | refine gC ?_ | refine gD ?_ | refine gE ?_ | refine gF rfl ?_ | refine gG rfl ?_ | refine gH ?_ | refine gI ?_ | refine gJ ?_ | refine gK ?_ | refine gL ?_ | refine gM hC rfl ⟨⟩ ?_ | refine gM hC rfl (by exact sd) ?_
        (refine end_intro (by first | exact .inr rfl | exact .inl rfl) [] rfl ?_)
        refine ⟨?_, trivial⟩
        unfold checkS
        rw [if_neg (by omega), hf, List.drop_of_length_le (by omega)]
        rfl

def costsS (a b c : Int) : Int := firstS [withinS a 0 1000, withinS b 0 1000, withinS c 0 1000]
def Costs_i (a b c : Int) : Inst := { f := 65, hin := [], args := [.agg [i64 a, i64 b, i64 c]], hout := [], ret := i64 (costsS a b c), σ := [] }
theorem Costs_s (a b c : Int) : (Costs_i a b c).ok Tryz.prog := by
  unfold Costs_i Inst.ok; dsimp only; refine spec_of_body (tys := tys) 0 Tryz.func65 (by kernel_rfl) rfl tys_ok rfl (Nat.le_of_ble_eq_true rfl) (fun _ _ h => (by cases h)) fun F hP hm hC hrd => ?_; conv => whnf
  repeat first | refine lwp_seq fun K hK => ?_ | ((with_reducible refine gA ?_); apply_assumption -exfalso -symm) | refine gB ?_ | refine gC ?_ | refine gD ?_ | refine gE ?_ | refine gF rfl ?_ | refine gG rfl ?_ | refine gH ?_ | refine gI ?_ | refine gJ ?_ | refine gK ?_ | refine gL ?_ | refine gM hC rfl ⟨⟩ ?_ | refine gM hC rfl (by exact sd) ?_
  (refine lwp_drawn hC (by rw [hP]; exact mixed) ⟨[], [], [(2, AWithin_i a 0 1000), (5, AWithin_i b 0 1000), (8, AWithin_i c 0 1000), (10, AFirst_i [withinS a 0 1000, withinS b 0 1000, withinS c 0 1000] [(0, some 1)])]⟩ (told1 _ (by rw [hP]; exact (calls_cons (AWithin_s _ _ _) (calls_cons (AWithin_s _ _ _) (calls_cons (AWithin_s _ _ _) (calls_cons (AFirst_s _ _ (by simp)) calls_nil)))))) [0, 1, 3, 0, 8, 31, 0, 64, 255, 511, 1023, 2047] 8 rfl ?_ ?_; rotate_left 1)
  · repeat first | refine lwp_seq fun K hK => ?_ | ((with_reducible refine gA ?_); apply_assumption -exfalso -symm) | refine gB ?_ | refine gC ?_ | refine gD ?_ | refine gE ?_ | refine gF rfl ?_ | refine gG rfl ?_ | refine gH ?_ | refine gI ?_ | refine gJ ?_ | refine gK ?_ | refine gL ?_ | refine gM hC rfl ⟨⟩ ?_ | refine gM hC rfl (by exact sd) ?_
    (refine end_intro (by first | exact .inr rfl | exact .inl rfl) [] rfl ?_)
    exact ⟨rfl, trivial⟩
  · exact sd

def rideS (m s : List Th) : Int := firstS [checkS m, checkS s]
def rideIn (m s : List Th) : List (Nat × Chunk) := [(0, .ro m.length 2 (thC m)), (1, .ro s.length 2 (thC s))]
def Ride_i (m s : List Th) (σ : Ren) : Inst := { f := 64, hin := rideIn m s, args := [.agg [.sl 0 m.length, .sl 1 s.length]], hout := [], ret := i64 (rideS m s), σ := σ }
theorem Ride_s (m s : List Th) (σ : Ren) (hm : m.length ≤ 1000000) (hs : s.length ≤ 1000000) : (Ride_i m s σ).ok Tryz.prog := by
  have hm' := hm
  unfold Ride_i Inst.ok; dsimp only; refine spec_of_body (tys := tys) 2 Tryz.func64 (by kernel_rfl) rfl tys_ok rfl (Nat.le_of_ble_eq_true rfl) (fun _ _ h => (by cases h)) fun F hP hm hC hrd => ?_; conv => whnf
  repeat first | refine lwp_seq fun K hK => ?_ | ((with_reducible refine gA ?_); apply_assumption -exfalso -symm) | refine gB ?_ | refine gC ?_ | refine gD ?_ | refine gE ?_ | refine gF rfl ?_ | refine gG rfl ?_ | refine gH ?_ | refine gI ?_ | refine gJ ?_ | refine gK ?_ | refine gL ?_ | refine gM hC rfl ⟨⟩ ?_ | refine gM hC rfl (by exact sd) ?_
  (refine lwp_drawn hC (by rw [hP]; exact mixed) ⟨[], [], [(2, MMapped_i m [(0, some 0)]), (3, Things_i m [(0, some 3)]), (6, SMapped_i s [(0, some 1)]), (7, Things_i s [(0, some 4)]), (9, AFirst_i [checkS m, checkS s] [(0, some 5)])]⟩ (told1 _ (by rw [hP]; exact (calls_cons (MMapped_s _ _ hm') (calls_cons (Things_s _ _ hm') (calls_cons (SMapped_s _ _ hs) (calls_cons (Things_s _ _ hs) (calls_cons (AFirst_s _ _ (by simp)) calls_nil))))))) [0, 1, 3, 7, 0, 16, 63, 127, 255, 511, 1023] 6 rfl ?_ ?_; rotate_left 1)
  · repeat first | refine lwp_seq fun K hK => ?_ | ((with_reducible refine gA ?_); apply_assumption -exfalso -symm) | refine gB ?_ | refine gC ?_ | refine gD ?_ | refine gE ?_ | refine gF rfl ?_ | refine gG rfl ?_ | refine gH ?_ | refine gI ?_ | refine gJ ?_ | refine gK ?_ | refine gL ?_ | refine gM hC rfl ⟨⟩ ?_ | refine gM hC rfl (by exact sd) ?_
    (refine end_intro (by first | exact .inr rfl | exact .inl rfl) [] rfl ?_)
    exact ⟨rfl, trivial⟩
  · exact sd

end Go.Proofs.YtfmnfagcbehmdaaGreatDoor

namespace Go.Proofs.YtfmnfagcbehmdaaGreatDoor
open Go.RowKit Go.Sym

def prV (p : Int × Int) : List Value := [.int .i64 p.1, .int .i64 p.2]
def prC (l : List (Int × Int)) : Cont := genL prV (0, 0) 2 l
def prA (p : Int × Int) : AV := .agg [i64 p.1, i64 p.2]
structure Cs where
  missed : Int
  unseen : Int
  stretch : Int
def csA (c : Cs) : AV := .agg [i64 c.missed, i64 c.unseen, i64 c.stretch]
def rdA (m s : List Th) : AV := .agg [.sl 0 m.length, .sl 1 s.length]
def thAt (l : List Th) (i : Int) : Th := l.getD i.toNat thD

def alikeS (m s : List Th) (p : Int × Int) : Bool := decide ((thAt s p.1).kind = (thAt m p.2).kind)
def inS (m s : List Th) (p : Int × Int) : Prop := (0 ≤ p.1 ∧ p.1 < s.length) ∧ 0 ≤ p.2 ∧ p.2 < m.length
def Alike_i (m s : List Th) (p : Int × Int) (σ : Ren) : Inst := { f := 137, hin := rideIn m s, args := [rdA m s, prA p], hout := [], ret := bl (alikeS m s p), σ := σ }
theorem Alike_s (m s : List Th) (p : Int × Int) (σ : Ren) (hm' : m.length ≤ 1000000) (hs : s.length ≤ 1000000) (hp : inS m s p) : (Alike_i m s p σ).ok Tryz.prog := by
  obtain ⟨⟨h1, h2⟩, h3, h4⟩ := hp
  unfold Alike_i Inst.ok; dsimp only; refine spec_of_body (tys := tys) 2 Tryz.func137 (by kernel_rfl) rfl tys_ok rfl (Nat.le_of_ble_eq_true rfl) (fun _ _ h => (by cases h)) fun F hP hm hC hrd => ?_; conv => whnf
  repeat first | refine lwp_seq fun K hK => ?_ | ((with_reducible refine gA ?_); apply_assumption -exfalso -symm) | refine gB ?_ | refine gC ?_ | refine gD ?_ | refine gE ?_ | refine gF rfl ?_ | refine gG rfl ?_ | refine gH ?_ | refine gI ?_ | refine gJ ?_ | refine gK ?_ | refine gL ?_ | refine gM hC rfl ⟨⟩ ?_ | refine gM hC rfl (by exact sd) ?_
  (refine lwp_drawn hC (by rw [hP]; exact mixed) ⟨[], [], []⟩ (told0 _ _) [0, 1, 0, 4, 15, 31, 63, 0, 128, 0, 512, 1920, 3968, 8064, 16383, 32767] 14 rfl ?_ ?_; rotate_left 1)
  · repeat first | refine lwp_seq fun K hK => ?_ | ((with_reducible refine gA ?_); apply_assumption -exfalso -symm) | refine gB ?_ | refine gC ?_ | refine gD ?_ | refine gE ?_ | refine gF rfl ?_ | refine gG rfl ?_ | refine gH ?_ | refine gI ?_ | refine gJ ?_ | refine gK ?_ | refine gL ?_ | refine gM hC rfl ⟨⟩ ?_ | refine gM hC rfl (by exact sd) ?_
    (refine end_intro (by first | exact .inr rfl | exact .inl rfl) [] rfl ?_)
    exact ⟨rfl, trivial⟩
  · exact sd

def endsS (s : List Th) (c : Cs) (a b : Int × Int) : List Int := [c.missed * a.1, c.missed * (s.length - 1 - b.1)]
/-- Costs and pairs whose sums are no greater than numbers can be. -/
def csOk (c : Cs) : Prop := (0 ≤ c.missed ∧ c.missed ≤ 1000) ∧ (0 ≤ c.unseen ∧ c.unseen ≤ 1000) ∧ 0 ≤ c.stretch ∧ c.stretch ≤ 1000
theorem mul_small {a b : Int} (ha : 0 ≤ a ∧ a ≤ 1000) (hb : -4000000000 ≤ b ∧ b ≤ 4000000000) : -4000000000000 ≤ a * b ∧ a * b ≤ 4000000000000 := by
  have h1 : a * b ≤ a * 4000000000 := Int.mul_le_mul_of_nonneg_left hb.2 ha.1
  have h2 : a * (-4000000000) ≤ a * b := Int.mul_le_mul_of_nonneg_left hb.1 ha.1
  omega
def Ends_i (m s : List Th) (c : Cs) (a b : Int × Int) (σ : Ren) : Inst := { f := 67, hin := rideIn m s, args := [rdA m s, csA c, prA a, prA b], hout := [], ret := .agg [i64 (c.missed * a.1), i64 (c.missed * (s.length - 1 - b.1))], σ := σ }
theorem Ends_s (m s : List Th) (c : Cs) (a b : Int × Int) (σ : Ren) (hc : csOk c) (hs : s.length ≤ 64) (ha : inS m s a) (hb : inS m s b) : (Ends_i m s c a b σ).ok Tryz.prog := by
  obtain ⟨⟨h1, h2⟩, h3, h4⟩ := ha
  obtain ⟨⟨h5, h6⟩, h7, h8⟩ := hb
  obtain ⟨hc1, hc2, hc3⟩ := hc
  have k1 := mul_small (b := a.1) hc1 (by omega)
  have k2 := mul_small (b := (s.length : Int) - 1 - b.1) hc1 (by omega)
  unfold Ends_i Inst.ok; dsimp only; refine spec_of_body (tys := tys) 2 Tryz.func67 (by kernel_rfl) rfl tys_ok rfl (Nat.le_of_ble_eq_true rfl) (fun _ _ h => (by cases h)) fun F hP hm hC hrd => ?_; conv => whnf
  repeat first | refine lwp_seq fun K hK => ?_ | ((with_reducible refine gA ?_); apply_assumption -exfalso -symm) | refine gB ?_ | refine gC ?_ | refine gD ?_ | refine gE ?_ | refine gF rfl ?_ | refine gG rfl ?_ | refine gH ?_ | refine gI ?_ | refine gJ ?_ | refine gK ?_ | refine gL ?_ | refine gM hC rfl ⟨⟩ ?_ | refine gM hC rfl (by exact sd) ?_
  all_goals first | exact sd | skip
  (refine end_intro (by first | exact .inr rfl | exact .inl rfl) [] rfl ?_)
  exact ⟨rfl, rfl, trivial⟩

def placesOk (l : List Th) : Prop := ∀ i, 0 ≤ (thAt l i).place ∧ (thAt l i).place ≤ 100000000
def grownS (m s : List Th) (c : Cs) (a b : Int × Int) : Int := c.missed * (b.1 - a.1 - 1) + c.unseen * (b.2 - a.2 - 1) + c.stretch * max ((thAt m b.2).place - (thAt m a.2).place - ((thAt s b.1).place - (thAt s a.1).place)) ((thAt s b.1).place - (thAt s a.1).place - ((thAt m b.2).place - (thAt m a.2).place))
def Grown_i (m s : List Th) (c : Cs) (a b : Int × Int) (σ : Ren) : Inst := { f := 72, hin := rideIn m s, args := [rdA m s, csA c, prA a, prA b], hout := [], ret := i64 (grownS m s c a b), σ := σ }
set_option maxRecDepth 20000 in
theorem Grown_s (m s : List Th) (c : Cs) (a b : Int × Int) (σ : Ren) (hc : csOk c) (hl : m.length ≤ 64 ∧ s.length ≤ 64) (hpm : placesOk m) (hps : placesOk s) (ha : inS m s a) (hb : inS m s b) : (Grown_i m s c a b σ).ok Tryz.prog := by
  obtain ⟨⟨h1, h2⟩, h3, h4⟩ := ha
  obtain ⟨⟨h5, h6⟩, h7, h8⟩ := hb
  obtain ⟨hc1, hc2, hc3⟩ := hc
  have k1 := mul_small (b := b.1 - a.1 - 1) hc1 (by omega)
  have k2 := mul_small (b := b.2 - a.2 - 1) hc2 (by omega)
  have p1 := hpm a.2; have p2 := hpm b.2; have p3 := hps a.1; have p4 := hps b.1
  have k3 := mul_small (b := max ((thAt m b.2).place - (thAt m a.2).place - ((thAt s b.1).place - (thAt s a.1).place)) ((thAt s b.1).place - (thAt s a.1).place - ((thAt m b.2).place - (thAt m a.2).place))) hc3 (by omega)
  have f1 : -1000000000 ≤ (thAt m b.2).place - (thAt m a.2).place ∧ (thAt m b.2).place - (thAt m a.2).place ≤ 1000000000 := by omega
  have f2 : -1000000000 ≤ (thAt s b.1).place - (thAt s a.1).place ∧ (thAt s b.1).place - (thAt s a.1).place ≤ 1000000000 := by omega
  have k4 := k3
  unfold thAt at p1 p2 p3 p4 k3
  unfold Grown_i Inst.ok; dsimp only; refine spec_of_body (tys := tys) 2 Tryz.func72 (by kernel_rfl) rfl tys_ok rfl (Nat.le_of_ble_eq_true rfl) (fun _ _ h => (by cases h)) fun F hP hm hC hrd => ?_; conv => whnf
  repeat first | refine lwp_seq fun K hK => ?_ | ((with_reducible refine gA ?_); apply_assumption -exfalso -symm) | refine gB ?_ | refine gC ?_ | refine gD ?_ | refine gE ?_ | refine gF rfl ?_ | refine gG rfl ?_ | refine gH ?_ | refine gI ?_ | refine gJ ?_ | refine gK ?_ | refine gL ?_ | refine gM hC rfl ⟨⟩ ?_ | refine gM hC rfl (by exact sd) ?_
  (refine lwp_drawn hC (by rw [hP]; exact mixed) ⟨[], [], []⟩ (told0 _ _) [0, 1, 0, 4, 15, 31, 63, 0, 128, 0, 512, 1920, 3968, 8064, 16383, 32767] 14 rfl ?_ ?_; rotate_left 1)
  · repeat first | refine lwp_seq fun K hK => ?_ | ((with_reducible refine gA ?_); apply_assumption -exfalso -symm) | refine gB ?_ | refine gC ?_ | refine gD ?_ | refine gE ?_ | refine gF rfl ?_ | refine gG rfl ?_ | refine gH ?_ | refine gI ?_ | refine gJ ?_ | refine gK ?_ | refine gL ?_ | refine gM hC rfl ⟨⟩ ?_ | refine gM hC rfl (by exact sd) ?_
    (refine lwp_drawn hC (by rw [hP]; exact mixed) ⟨[], [], []⟩ (told0 _ _) [0, 1, 0, 4, 15, 31, 63, 0, 128, 0, 512, 1920, 3968, 8064, 16383, 32767] 14 rfl ?_ ?_; rotate_left 1)
    · repeat first | refine lwp_seq fun K hK => ?_ | ((with_reducible refine gA ?_); apply_assumption -exfalso -symm) | refine gB ?_ | refine gC ?_ | refine gD ?_ | refine gE ?_ | refine gF rfl ?_ | refine gG rfl ?_ | refine gH ?_ | refine gI ?_ | refine gJ ?_ | refine gK ?_ | refine gL ?_ | refine gM hC rfl ⟨⟩ ?_ | refine gM hC rfl (by exact sd) ?_
      (refine lwp_drawn2 hC (by rw [hP]; exact mixed) ⟨[], [], [(23, Far_i ((thAt m b.2).place - (thAt m a.2).place) ((thAt s b.1).place - (thAt s a.1).place))]⟩ (told1 _ (by rw [hP]; exact (calls_cons (Far_s _ _ f1 f2) calls_nil))) [0, 1, 0, 4, 0, 16, 60, 124, 255, 0, 512, 0, 2048, 0, 8192, 30720, 63488, 130560, 262143, 0, 524288, 0, 0, 6291456, 16252928, 33554431, 67108863] 27 0 rfl ?_ ?_; rotate_left 1)
      · repeat first | refine lwp_seq fun K hK => ?_ | ((with_reducible refine gA ?_); apply_assumption -exfalso -symm) | refine gB ?_ | refine gC ?_ | refine gD ?_ | refine gE ?_ | refine gF rfl ?_ | refine gG rfl ?_ | refine gH ?_ | refine gI ?_ | refine gJ ?_ | refine gK ?_ | refine gL ?_ | refine gM hC rfl ⟨⟩ ?_ | refine gM hC rfl (by exact sd) ?_
        (refine end_intro (by first | exact .inr rfl | exact .inl rfl) [] rfl ?_)
        exact ⟨rfl, trivial⟩
      · exact sd
    · exact sd
  · exact sd

end Go.Proofs.YtfmnfagcbehmdaaGreatDoor

namespace Go.Proofs.YtfmnfagcbehmdaaGreatDoor
open Go.RowKit Go.Sym

abbrev prAt (l : List (Int × Int)) (i : Nat) : Int × Int := l.getD i (0, 0)
def costIn (m s : List Th) (l : List (Int × Int)) : List (Nat × Chunk) := [(0, .ro m.length 2 (thC m)), (1, .ro s.length 2 (thC s)), (2, .ro l.length 2 (prC l))]
def pairE (m s : List Th) (p b : Int × Int) : Int := firstS [whenS (!alikeS m s p) 24, whenS (bif decide (p.1 ≤ b.1) then true else decide (p.2 ≤ b.2)) 11]
def outS (m s : List Th) (p : Int × Int) : Bool := bif bif bif decide (p.1 < 0) then true else decide ((s.length : Int) ≤ p.1) then true else decide (p.2 < 0) then true else decide ((m.length : Int) ≤ p.2)
theorem outS_in {m s : List Th} {p : Int × Int} (h : outS m s p = false) : inS m s p := by
  unfold outS at h
  by_cases h1 : p.1 < 0 <;> by_cases h2 : (s.length : Int) ≤ p.1 <;> by_cases h3 : p.2 < 0 <;> by_cases h4 : (m.length : Int) ≤ p.2 <;> simp [h1, h2, h3, h4] at h
  exact ⟨⟨by omega, by omega⟩, by omega, by omega⟩
def pairsS (m s : List Th) : List (Int × Int) → Int × Int → Int
  | [], _ => 0
  | p :: l, b => if outS m s p = true then 10 else if pairE m s p b = 0 then pairsS m s l p else pairE m s p b
def frontS (m s : List Th) (l : List (Int × Int)) : Int := firstS [rideS m s, whenS (decide (64 < (l.length : Int))) 5]
def checkPairsS (m s : List Th) (l : List (Int × Int)) : Int := if frontS m s l = 0 then pairsS m s l (-1, -1) else frontS m s l
def lastPr (l : List (Int × Int)) : Nat → Int × Int
  | 0 => (-1, -1)
  | k + 1 => prAt l k
theorem pairsS_drop (m s : List Th) (l : List (Int × Int)) (k : Nat) (h : k < l.length) : pairsS m s (l.drop k) (lastPr l k) = if outS m s (prAt l k) = true then 10 else if pairE m s (prAt l k) (lastPr l k) = 0 then pairsS m s (l.drop (k + 1)) (lastPr l (k + 1)) else pairE m s (prAt l k) (lastPr l k) := by
  rw [List.drop_eq_getElem_cons h]
  simp only [pairsS, lastPr, prAt, List.getD_eq_getElem?_getD, List.getElem?_eq_getElem h, Option.getD_some]

def Pairs_i (m s : List Th) (l : List (Int × Int)) (σ : Ren) : Inst := { f := 85, hin := costIn m s l, args := [rdA m s, .sl 2 l.length], hout := [], ret := i64 (checkPairsS m s l), σ := σ }
set_option maxRecDepth 20000 in
set_option maxHeartbeats 4000000 in
theorem Pairs_s (m s : List Th) (l : List (Int × Int)) (σ : Ren) (hm' : m.length ≤ 1000000) (hs : s.length ≤ 1000000) (hl : l.length ≤ 1000000) : (Pairs_i m s l σ).ok Tryz.prog := by
  unfold Pairs_i Inst.ok; dsimp only; refine spec_of_body (tys := tys) 3 Tryz.func85 (by kernel_rfl) rfl tys_ok rfl (Nat.le_of_ble_eq_true rfl) (fun _ _ h => (by cases h)) fun F hP hm hC hrd => ?_; conv => whnf
  repeat first | refine lwp_seq fun K hK => ?_ | ((with_reducible refine gA ?_); apply_assumption -exfalso -symm) | refine gB ?_ | refine gC ?_ | refine gD ?_ | refine gE ?_ | refine gF rfl ?_ | refine gG rfl ?_ | refine gH ?_ | refine gI ?_ | refine gJ ?_ | refine gK ?_ | refine gL ?_ | refine gM hC rfl ⟨⟩ ?_ | refine gM hC rfl (by exact sd) ?_
  (refine lwp_region hC ⟨[], [], [(1, Ride_i m s [(0, some 0), (1, some 1)]), (5, AWhen_i (decide (64 < (l.length : Int))) 5), (7, AFirst_i [rideS m s, whenS (decide (64 < (l.length : Int))) 5] [(0, some 4)])]⟩ (told1 _ (by rw [hP]; exact (calls_cons (Ride_s _ _ _ hm' hs) (calls_cons (AWhen_s _ _) (calls_cons (AFirst_s _ _ (by simp)) calls_nil))))) rfl ?_ ?_; rotate_left 1)
  · repeat first | refine lwp_seq fun K hK => ?_ | ((with_reducible refine gA ?_); apply_assumption -exfalso -symm) | refine gB ?_ | refine gC ?_ | refine gD ?_ | refine gE ?_ | refine gF rfl ?_ | refine gG rfl ?_ | refine gH ?_ | refine gI ?_ | refine gJ ?_ | refine gK ?_ | refine gL ?_ | refine gM hC rfl ⟨⟩ ?_ | refine gM hC rfl (by exact sd) ?_
    (refine lwp_cond hC rfl (by first | exact ⟨⟩ | exact sd) (fun hb => ?_) (fun hb => ?_) <;> (try simp only [decide_eq_true_eq, decide_eq_false_iff_not, Bool.not_eq_true', Bool.not_eq_false', ne_eq, Decidable.not_not] at hb))
    · repeat first | refine lwp_seq fun K hK => ?_ | ((with_reducible refine gA ?_); apply_assumption -exfalso -symm) | refine gB ?_ | refine gC ?_ | refine gD ?_ | refine gE ?_ | refine gF rfl ?_ | refine gG rfl ?_ | refine gH ?_ | refine gI ?_ | refine gJ ?_ | refine gK ?_ | refine gL ?_ | refine gM hC rfl ⟨⟩ ?_ | refine gM hC rfl (by exact sd) ?_
      (refine end_intro (by first | exact .inr rfl | exact .inl rfl) [] rfl ?_)
      refine ⟨?_, trivial⟩
      show checkPairsS m s l = frontS m s l
      unfold checkPairsS
      rw [if_neg (show ¬ frontS m s l = 0 from hb)]
    · repeat first | refine lwp_seq fun K hK => ?_ | ((with_reducible refine gA ?_); apply_assumption -exfalso -symm) | refine gB ?_ | refine gC ?_ | refine gD ?_ | refine gE ?_ | refine gF rfl ?_ | refine gG rfl ?_ | refine gH ?_ | refine gI ?_ | refine gJ ?_ | refine gK ?_ | refine gL ?_ | refine gM hC rfl ⟨⟩ ?_ | refine gM hC rfl (by exact sd) ?_
      refine lwp_loop (fun k : Nat => ⟨[(24, i64 k), (23, i64 l.length), (22, .sl 2 l.length), (6, .ptr 4 0 0 0), (2, .ptr 3 0 0 0)], [(4, .blk 75 [i64 (lastPr l k).1, i64 (lastPr l k).2]), (3, .blk 38 [.sl 0 m.length, .sl 1 s.length]), (0, .ro m.length 2 (thC m)), (1, .ro s.length 2 (thC s)), (2, .ro l.length 2 (prC l))], 5⟩) (fun k => k ≤ l.length ∧ pairsS m s l (-1, -1) = pairsS m s (l.drop k) (lastPr l k)) (fun k => l.length - k) 0 ⟨?_, sub_intro hm [(0, some 0), (1, some 1), (2, some 2), (3, some 3), (4, some 5)] rfl ?_⟩ ?_
      · exact ⟨Nat.zero_le _, rfl⟩
      · exact sd
      · rintro k ⟨hk, hf⟩
        have hb0 := hb
        clear hb
        repeat first | refine lwp_seq fun K hK => ?_ | ((with_reducible refine gA ?_); apply_assumption -exfalso -symm) | refine gB ?_ | refine gC ?_ | refine gD ?_ | refine gE ?_ | refine gF rfl ?_ | refine gG rfl ?_ | refine gH ?_ | refine gI ?_ | refine gJ ?_ | refine gK ?_ | refine gL ?_ | refine gM hC rfl ⟨⟩ ?_ | refine gM hC rfl (by exact sd) ?_
        (refine lwp_cond hC rfl (by first | exact ⟨⟩ | exact sd) (fun hb => ?_) (fun hb => ?_) <;> (try simp only [decide_eq_true_eq, decide_eq_false_iff_not, Bool.not_eq_true', Bool.not_eq_false', ne_eq, Decidable.not_not] at hb))
        · repeat first | refine lwp_seq fun K hK => ?_ | ((with_reducible refine gA ?_); apply_assumption -exfalso -symm) | refine gB ?_ | refine gC ?_ | refine gD ?_ | refine gE ?_ | refine gF rfl ?_ | refine gG rfl ?_ | refine gH ?_ | refine gI ?_ | refine gJ ?_ | refine gK ?_ | refine gL ?_ | refine gM hC rfl ⟨⟩ ?_ | refine gM hC rfl (by exact sd) ?_
          (refine lwp_cond hC rfl (by first | exact ⟨⟩ | exact sd) (fun hb => ?_) (fun hb => ?_) <;> (try simp only [decide_eq_true_eq, decide_eq_false_iff_not, Bool.not_eq_true', Bool.not_eq_false', ne_eq, Decidable.not_not] at hb))
          · have hb' : outS m s (prAt l k) = true := by rw [Int.toNat_natCast] at hb; exact hb
            repeat first | refine lwp_seq fun K hK => ?_ | ((with_reducible refine gA ?_); apply_assumption -exfalso -symm) | refine gB ?_ | refine gC ?_ | refine gD ?_ | refine gE ?_ | refine gF rfl ?_ | refine gG rfl ?_ | refine gH ?_ | refine gI ?_ | refine gJ ?_ | refine gK ?_ | refine gL ?_ | refine gM hC rfl ⟨⟩ ?_ | refine gM hC rfl (by exact sd) ?_
            (refine end_intro (by first | exact .inr rfl | exact .inl rfl) [] rfl ?_)
            refine ⟨?_, trivial⟩
            show checkPairsS m s l = 10
            unfold checkPairsS
            rw [if_pos (show frontS m s l = 0 from hb0), hf, pairsS_drop m s l k (by omega), if_pos hb']
          · have hb' : outS m s (prAt l k) = false := by rw [Int.toNat_natCast] at hb; exact hb
            have hin := outS_in hb'
            clear hb
            repeat first | refine lwp_seq fun K hK => ?_ | ((with_reducible refine gA ?_); apply_assumption -exfalso -symm) | refine gB ?_ | refine gC ?_ | refine gD ?_ | refine gE ?_ | refine gF rfl ?_ | refine gG rfl ?_ | refine gH ?_ | refine gI ?_ | refine gJ ?_ | refine gK ?_ | refine gL ?_ | refine gM hC rfl ⟨⟩ ?_ | refine gM hC rfl (by exact sd) ?_
            (refine lwp_drawn2 hC (by rw [hP]; exact mixed) ⟨[], [], [(2, Alike_i m s (prAt l k) [(0, some 0), (1, some 1)]), (4, AWhen_i (!alikeS m s (prAt l k)) 24), (17, AWhen_i (bif decide ((prAt l k).1 ≤ (lastPr l k).1) then true else decide ((prAt l k).2 ≤ (lastPr l k).2)) 11), (19, AFirst_i [whenS (!alikeS m s (prAt l k)) 24, whenS (bif decide ((prAt l k).1 ≤ (lastPr l k).1) then true else decide ((prAt l k).2 ≤ (lastPr l k).2)) 11] [(0, some 7)])]⟩ (told1 _ (by rw [hP]; exact (calls_cons (Alike_s _ _ _ _ hm' hs hin) (calls_cons (AWhen_s _ _) (calls_cons (AWhen_s _ _) (calls_cons (AFirst_s _ _ (by simp)) calls_nil)))))) [0, 0, 3, 7, 15, 0, 32, 0, 128, 480, 1023, 2047, 4095, 2047, 10239, 32767, 65535, 131071, 262143, 524287, 1048575] 21 0 rfl ?_ ?_; rotate_left 1)
            · repeat first | refine lwp_seq fun K hK => ?_ | ((with_reducible refine gA ?_); apply_assumption -exfalso -symm) | refine gB ?_ | refine gC ?_ | refine gD ?_ | refine gE ?_ | refine gF rfl ?_ | refine gG rfl ?_ | refine gH ?_ | refine gI ?_ | refine gJ ?_ | refine gK ?_ | refine gL ?_ | refine gM hC rfl ⟨⟩ ?_ | refine gM hC rfl (by exact sd) ?_
              (refine lwp_cond hC rfl (by first | exact ⟨⟩ | exact sd) (fun hb => ?_) (fun hb => ?_) <;> (try simp only [decide_eq_true_eq, decide_eq_false_iff_not, Bool.not_eq_true', Bool.not_eq_false', ne_eq, Decidable.not_not] at hb))
              · repeat first | refine lwp_seq fun K hK => ?_ | ((with_reducible refine gA ?_); apply_assumption -exfalso -symm) | refine gB ?_ | refine gC ?_ | refine gD ?_ | refine gE ?_ | refine gF rfl ?_ | refine gG rfl ?_ | refine gH ?_ | refine gI ?_ | refine gJ ?_ | refine gK ?_ | refine gL ?_ | refine gM hC rfl ⟨⟩ ?_ | refine gM hC rfl (by exact sd) ?_
                (refine end_intro (by first | exact .inr rfl | exact .inl rfl) [] rfl ?_)
                refine ⟨?_, trivial⟩
                show checkPairsS m s l = pairE m s (prAt l k) (lastPr l k)
                unfold checkPairsS
                rw [if_pos (show frontS m s l = 0 from hb0), hf, pairsS_drop m s l k (by omega), if_neg (by rw [hb']; decide), if_neg (show ¬ pairE m s (prAt l k) (lastPr l k) = 0 from hb)]
              · repeat first | refine lwp_seq fun K hK => ?_ | ((with_reducible refine gA ?_); apply_assumption -exfalso -symm) | refine gB ?_ | refine gC ?_ | refine gD ?_ | refine gE ?_ | refine gF rfl ?_ | refine gG rfl ?_ | refine gH ?_ | refine gI ?_ | refine gJ ?_ | refine gK ?_ | refine gL ?_ | refine gM hC rfl ⟨⟩ ?_ | refine gM hC rfl (by exact sd) ?_
                refine gA ⟨k + 1, ?_, ?_, sub_intro hm [(0, some 0), (1, some 1), (2, some 2), (3, some 3), (4, some 4)] rfl ?_⟩
                · refine ⟨by omega, ?_⟩
                  rw [hf, pairsS_drop m s l k (by omega), if_neg (by rw [hb']; decide), if_pos (show pairE m s (prAt l k) (lastPr l k) = 0 from hb)]
                · omega
                · exact sd
            · exact sd
        · repeat first | refine lwp_seq fun K hK => ?_ | ((with_reducible refine gA ?_); apply_assumption -exfalso -symm) | refine gB ?_ | refine gC ?_ | refine gD ?_ | refine gE ?_ | refine gF rfl ?_ | refine gG rfl ?_ | refine gH ?_ | refine gI ?_ | refine gJ ?_ | refine gK ?_ | refine gL ?_ | refine gM hC rfl ⟨⟩ ?_ | refine gM hC rfl (by exact sd) ?_
          (refine end_intro (by first | exact .inr rfl | exact .inl rfl) [] rfl ?_)
          refine ⟨?_, trivial⟩
          show checkPairsS m s l = 0
          unfold checkPairsS
          rw [if_pos (show frontS m s l = 0 from hb0), hf, List.drop_of_length_le (by omega)]
          rfl
  · exact sd

end Go.Proofs.YtfmnfagcbehmdaaGreatDoor

namespace Go.Proofs.YtfmnfagcbehmdaaGreatDoor
open Go.RowKit Go.Sym

theorem thS_zero {x : Th} {last : Int} : thS x last = 0 ↔ nameOk x.kind = true ∧ (0 ≤ x.place ∧ x.place ≤ 100000000) ∧ last < x.place := by
  unfold thS
  rw [firstS_cons, firstS_cons, firstS_cons, whenS_zero (by decide), whenS_zero (by decide), withinS_zero]
  simp [firstS]
theorem thingsS_zero : ∀ {l : List Th} {last : Int}, thingsS l last = 0 → ∀ x ∈ l, nameOk x.kind = true ∧ 0 ≤ x.place ∧ x.place ≤ 100000000
  | [], _, _, x, hx => by cases hx
  | y :: l, last, h, x, hx => by
    simp only [thingsS] at h
    split at h
    · rename_i hy
      rcases List.mem_cons.1 hx with rfl | hx
      · have := thS_zero.1 hy; exact ⟨this.1, this.2.1⟩
      · exact thingsS_zero h x hx
    · rename_i hy; exact absurd h hy
theorem checkS_zero {l : List Th} (h : checkS l = 0) : l.length ≤ 64 ∧ placesOk l := by
  unfold checkS at h
  split at h
  · cases h
  · refine ⟨by omega, fun i => ?_⟩
    unfold thAt
    rw [List.getD_eq_getElem?_getD]
    cases hi : l[i.toNat]? with
    | none => simp [thD]
    | some x => exact (thingsS_zero h x (List.mem_of_getElem? hi)).2
theorem pairsS_zero {m s : List Th} : ∀ {l : List (Int × Int)} {b : Int × Int}, pairsS m s l b = 0 → ∀ p ∈ l, inS m s p
  | [], _, _, p, hp => by cases hp
  | q :: l, b, h, p, hp => by
    simp only [pairsS] at h
    split at h
    · cases h
    · rename_i ho
      split at h
      · rcases List.mem_cons.1 hp with rfl | hp
        · exact outS_in (by simpa using ho)
        · exact pairsS_zero h p hp
      · rename_i hy; exact absurd h hy

theorem rideS_zero {m s : List Th} (h : rideS m s = 0) : checkS m = 0 ∧ checkS s = 0 := by
  unfold rideS at h
  rw [firstS_cons, firstS_cons] at h
  exact ⟨h.1, h.2.1⟩

end Go.Proofs.YtfmnfagcbehmdaaGreatDoor
