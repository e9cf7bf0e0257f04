/- Chapter 5: things turned about a point; lists in the opposite order. -/
import Derived.Test.YtfmnfagcbehmdaaGreatDoorDa
import Derived.Test.YtfmnfagcbehmdaaGreatDoorEh
set_option linter.unusedVariables false
set_option linter.unusedSimpArgs false
namespace Go.Proofs.YtfmnfagcbehmdaaGreatDoor
open Go.RowKit Go.Sym

/-- A list of which the first k elements and the last k ones have changed places. -/
def revK {α : Type} (d : α) (l : List α) (k : Nat) : List α := (List.range l.length).map fun i => if i < k ∨ l.length - k ≤ i then l.getD (l.length - 1 - i) d else l.getD i d
theorem revK_length {α : Type} (d : α) (l : List α) (k : Nat) : (revK d l k).length = l.length := by simp [revK]
theorem revK_at {α : Type} (d : α) (l : List α) (k i : Nat) (h : i < l.length) : (revK d l k).getD i d = if i < k ∨ l.length - k ≤ i then l.getD (l.length - 1 - i) d else l.getD i d := by
  rw [List.getD_eq_getElem?_getD, List.getElem?_eq_getElem (by rw [revK_length]; exact h)]
  simp [revK]
theorem revK_zero {α : Type} (d : α) (l : List α) : revK d l 0 = l := by
  refine getD_ext (d := d) (revK_length d l 0) fun i hi => ?_
  rw [revK_length] at hi
  rw [revK_at d l 0 i hi, if_neg (by omega)]
theorem reverse_at {α : Type} (d : α) (l : List α) (i : Nat) (h : i < l.length) : l.reverse.getD i d = l.getD (l.length - 1 - i) d := by
  rw [List.getD_eq_getElem?_getD, List.getD_eq_getElem?_getD, List.getElem?_reverse h]
theorem revK_all {α : Type} (d : α) (l : List α) (k : Nat) (h : l.length ≤ 2 * k + 1) : revK d l k = l.reverse := by
  refine getD_ext (d := d) (by rw [revK_length, List.length_reverse]) fun i hi => ?_
  rw [revK_length] at hi
  rw [revK_at d l k i hi, reverse_at d l i hi]
  split
  · rfl
  · rw [show l.length - 1 - i = i by omega]

def turnT (p : Int) (x : Th) : Th := ⟨x.kind, p - x.place⟩
def Tu_i (p : Int) (s : ByteArray) (n : Int) (σ : Ren) : Inst := { f := 160, hin := [(0, .rb 3 [i64 p])], args := [.agg [.lit (.string s), i64 n], .ptr 0 0 0 0], hout := [], ret := .agg [.lit (.string s), i64 (p - n)], σ := σ }
theorem Tu_s (p : Int) (s : ByteArray) (n : Int) (σ : Ren) (hp : 0 ≤ p ∧ p ≤ 100000000) (hn : 0 ≤ n ∧ n ≤ 100000000) : (Tu_i p s n σ).ok Tryz.prog := by
  unfold Tu_i Inst.ok; dsimp only; refine spec_of_body (tys := tys) 1 Tryz.func160 (by kernel_rfl) rfl tys_ok rfl (Nat.le_of_ble_eq_true rfl) (fun _ _ h => (by cases h)) fun F hP hm hC hrd => ?_; conv => whnf
  repeat first | refine lwp_seq fun K hK => ?_ | ((with_reducible refine gA ?_); apply_assumption -exfalso -symm) | refine gB ?_ | refine gC ?_ | refine gD ?_ | refine gE ?_ | refine gF rfl ?_ | refine gG rfl ?_ | refine gH ?_ | refine gI ?_ | refine gJ ?_ | refine gK ?_ | refine gL ?_ | refine gM hC rfl ⟨⟩ ?_ | refine gM hC rfl (by exact sd) ?_
  all_goals first | exact sd | skip
  (refine end_intro (by first | exact .inr rfl | exact .inl rfl) [] rfl ?_)
  exact sd
def TMap_i (p : Int) (l : List Th) (σ : Ren) : Inst := { f := 159, hin := [(0, .ro l.length 2 (thC l)), (1, .rb 3 [i64 p])], args := [.sl 0 l.length, .fn 160 [] [.ptr 1 0 0 0]], hout := [(2, .row 174 l.length 2 (thC (l.map (turnT p))))], ret := .sl 2 l.length, σ := σ }
set_option maxRecDepth 20000 in
theorem TMap_s (p : Int) (l : List Th) (σ : Ren) (hl : l.length ≤ 1000000) (hp : 0 ≤ p ∧ p ≤ 100000000) (hv : placesOk l) : (TMap_i p l σ).ok Tryz.prog := by
  unfold TMap_i Inst.ok; dsimp only; refine spec_of_body (tys := tys) 2 Tryz.func159 (by kernel_rfl) rfl tys_ok rfl (Nat.le_of_ble_eq_true rfl) (fun _ _ h => (by cases h)) fun F hP hm hC hrd => ?_; conv => whnf
  repeat first | refine lwp_seq fun K hK => ?_ | ((with_reducible refine gA ?_); apply_assumption -exfalso -symm) | refine gB ?_ | refine gC ?_ | refine gD ?_ | refine gE ?_ | refine gF rfl ?_ | refine gG rfl ?_ | refine gH ?_ | refine gI ?_ | refine gJ ?_ | refine gK ?_ | refine gL ?_ | refine gM hC rfl ⟨⟩ ?_ | refine gM hC rfl (by exact sd) ?_
  refine lwp_loop (fun k : Nat => ⟨[(10, i64 k), (9, i64 l.length), (8, .sl 0 l.length), (5, .sl 2 k), (1, .fn 160 [] [.ptr 1 0 0 0])], [(2, .row 174 k 2 (thC ((l.map (turnT p)).take k))), (0, .ro l.length 2 (thC l)), (1, .rb 3 [i64 p])], 3⟩) (fun k => k ≤ l.length) (fun k => l.length - k) 0 ⟨?_, sub_intro hm [(0, some 0), (1, some 1), (2, none)] rfl ?_⟩ ?_
  · exact Nat.zero_le _
  · exact sd
  · rintro k hk
    repeat first | refine lwp_seq fun K hK => ?_ | ((with_reducible refine gA ?_); apply_assumption -exfalso -symm) | refine gB ?_ | refine gC ?_ | refine gD ?_ | refine gE ?_ | refine gF rfl ?_ | refine gG rfl ?_ | refine gH ?_ | refine gI ?_ | refine gJ ?_ | refine gK ?_ | refine gL ?_ | refine gM hC rfl ⟨⟩ ?_ | refine gM hC rfl (by exact sd) ?_
    (refine lwp_cond hC rfl (by first | exact ⟨⟩ | exact sd) (fun hb => ?_) (fun hb => ?_) <;> (try simp only [decide_eq_true_eq, decide_eq_false_iff_not, Bool.not_eq_true', Bool.not_eq_false', ne_eq, Decidable.not_not] at hb))
    · have hkl : k < l.length := by omega
      have hpl : 0 ≤ (l.getD k thD).place ∧ (l.getD k thD).place ≤ 100000000 := by
        have := hv (k : Int)
        unfold thAt at this
        rw [Int.toNat_natCast] at this
        exact this
      repeat first | refine lwp_seq fun K hK => ?_ | ((with_reducible refine gA ?_); apply_assumption -exfalso -symm) | refine gB ?_ | refine gC ?_ | refine gD ?_ | refine gE ?_ | refine gF rfl ?_ | refine gG rfl ?_ | refine gH ?_ | refine gI ?_ | refine gJ ?_ | refine gK ?_ | refine gL ?_ | refine gM hC rfl ⟨⟩ ?_ | refine gM hC rfl (by exact sd) ?_
      (refine lwp_region hC ⟨[], [], [(3, Tu_i p (l.getD k thD).kind (l.getD k thD).place [(0, some 1)])]⟩ (told1 _ (by rw [hP]; exact (calls_cons (Tu_s _ _ _ _ hp hpl) calls_nil))) rfl ?_ ?_; rotate_left 1)
      · repeat first | refine lwp_seq fun K hK => ?_ | ((with_reducible refine gA ?_); apply_assumption -exfalso -symm) | refine gB ?_ | refine gC ?_ | refine gD ?_ | refine gE ?_ | refine gF rfl ?_ | refine gG rfl ?_ | refine gH ?_ | refine gI ?_ | refine gJ ?_ | refine gK ?_ | refine gL ?_ | refine gM hC rfl ⟨⟩ ?_ | refine gM hC rfl (by exact sd) ?_
        refine gA ⟨k + 1, ?_, ?_, sub_intro hm [(0, some 0), (1, some 1), (2, some 6)] rfl ?_⟩
        · omega
        · omega
        · have e := thC_snoc ((l.map (turnT p)).take k) (turnT p (l.getD k thD))
          rw [← map_at (turnT p) thD thD l k hkl, ← take_snoc _ _ _ (by rw [List.length_map]; omega)] at e
          have e2 : (thC ((l.map (turnT p)).take (k + 1))).cells = (catC (thC ((l.map (turnT p)).take k)) (Cont.exp [.lit (.string (l.getD k thD).kind), .lit (.int .i64 (p - (l.getD k thD).place))])).cells := by
            rw [catC_cells, e, map_at (turnT p) thD thD l k hkl]; rfl
          exact sd
      · exact sd
    · repeat first | refine lwp_seq fun K hK => ?_ | ((with_reducible refine gA ?_); apply_assumption -exfalso -symm) | refine gB ?_ | refine gC ?_ | refine gD ?_ | refine gE ?_ | refine gF rfl ?_ | refine gG rfl ?_ | refine gH ?_ | refine gI ?_ | refine gJ ?_ | refine gK ?_ | refine gL ?_ | refine gM hC rfl ⟨⟩ ?_ | refine gM hC rfl (by exact sd) ?_
      (refine end_intro (by first | exact .inr rfl | exact .inl rfl) [(2, some 2)] rfl ?_)
      obtain rfl : k = l.length := by omega
      rw [List.take_of_length_le (by rw [List.length_map]; omega)]
      exact sd

theorem Rev_step (l : List (Th)) (k : Nat) (h : k < l.length - 1 - k) : (thC (revK thD l (k + 1))).cells = (Cont.gen (revK thD l k).length 2 fun q => if q = l.length - 1 - k then lay ((fun q => if q = k then lay ((fun i => thV ((revK thD l k).getD i thD)) k) 0 (thV ((revK thD l k).getD (l.length - 1 - k) thD)) else (fun i => thV ((revK thD l k).getD i thD)) q) (l.length - 1 - k)) 0 (thV ((revK thD l k).getD k thD)) else (fun q => if q = k then lay ((fun i => thV ((revK thD l k).getD i thD)) k) 0 (thV ((revK thD l k).getD (l.length - 1 - k) thD)) else (fun i => thV ((revK thD l k).getD i thD)) q) q).cells := by
  rw [show (thC (revK thD l (k + 1))).cells = (Cont.gen (revK thD l (k + 1)).length 2 fun q => thV ((revK thD l (k + 1)).getD q thD)).cells from rfl, revK_length, revK_length]
  refine gen_congr fun q hq => ?_
  dsimp only
  rw [revK_at thD l (k + 1) q hq]
  by_cases h1 : q = l.length - 1 - k
  · rw [if_pos h1, if_neg (show ¬ l.length - 1 - k = k by omega), if_pos (by omega), revK_at thD l k k (by omega), if_neg (by omega), show l.length - 1 - q = k by omega]
    rfl
  · rw [if_neg h1]
    by_cases h2 : q = k
    · rw [if_pos h2, if_pos (by omega), revK_at thD l k (l.length - 1 - k) (by omega), if_neg (by omega), h2]
      rfl
    · rw [if_neg h2, revK_at thD l k q hq]
      by_cases h3 : q < k ∨ l.length - k ≤ q
      · rw [if_pos h3, if_pos (by omega)]
      · rw [if_neg h3, if_neg (by omega)]
def Rev_i (l : List (Th)) (σ : Ren) : Inst := { f := 161, hin := [(0, .row 174 l.length 2 (thC l))], args := [.sl 0 l.length], hout := [(0, .row 174 l.length 2 (thC l.reverse))], ret := .tup [], σ := σ }
set_option maxRecDepth 20000 in
set_option maxHeartbeats 4000000 in
theorem Rev_s (l : List (Th)) (σ : Ren) (hl : l.length ≤ 1000000) : (Rev_i l σ).ok Tryz.prog := by
  unfold Rev_i Inst.ok; dsimp only; refine spec_of_body (tys := tys) 1 Tryz.func161 (by kernel_rfl) rfl tys_ok rfl (Nat.le_of_ble_eq_true rfl) (fun _ _ h => (by cases h)) fun F hP hm hC hrd => ?_; conv => whnf
  repeat first | refine lwp_seq fun K hK => ?_ | ((with_reducible refine gA ?_); apply_assumption -exfalso -symm) | refine gB ?_ | refine gC ?_ | refine gD ?_ | refine gE ?_ | refine gF rfl ?_ | refine gG rfl ?_ | refine gH ?_ | refine gI ?_ | refine gJ ?_ | refine gK ?_ | refine gL ?_ | refine gM hC rfl ⟨⟩ ?_ | refine gM hC rfl (by exact sd) ?_
  refine lwp_loop (fun k : Nat => ⟨[(2, i64 k), (3, i64 ((l.length : Int) - 1 - k)), (0, .sl 0 l.length)], [(0, .row 174 l.length 2 (thC (revK thD l k)))], 1⟩) (fun k => 2 * k ≤ l.length) (fun k => l.length - k) 0 ⟨?_, sub_intro hm [(0, some 0)] rfl ?_⟩ ?_
  · omega
  · rw [revK_zero]
    exact sd
  · rintro k hk
    have e1 : (k : Int).toNat = k := Int.toNat_natCast k
    have e2 : ((l.length : Int) - 1 - (k : Int)).toNat = l.length - 1 - k := by omega
    repeat first | refine lwp_seq fun K hK => ?_ | ((with_reducible refine gA ?_); apply_assumption -exfalso -symm) | refine gB ?_ | refine gC ?_ | refine gD ?_ | refine gE ?_ | refine gF rfl ?_ | refine gG rfl ?_ | refine gH ?_ | refine gI ?_ | refine gJ ?_ | refine gK ?_ | refine gL ?_ | refine gM hC rfl ⟨⟩ ?_ | refine gM hC rfl (by exact sd) ?_
    (refine lwp_cond hC rfl (by first | exact ⟨⟩ | exact sd) (fun hb => ?_) (fun hb => ?_) <;> (try simp only [decide_eq_true_eq, decide_eq_false_iff_not, Bool.not_eq_true', Bool.not_eq_false', ne_eq, Decidable.not_not] at hb))
    · have e3 := Rev_step l k (by omega)
      have e4 : ¬ l.length - 1 - k = k := by omega
      repeat first | refine lwp_seq fun K hK => ?_ | ((with_reducible refine gA ?_); apply_assumption -exfalso -symm) | refine gB ?_ | refine gC ?_ | refine gD ?_ | refine gE ?_ | refine gF rfl ?_ | refine gG rfl ?_ | refine gH ?_ | refine gI ?_ | refine gJ ?_ | refine gK ?_ | refine gL ?_ | refine gM hC rfl ⟨⟩ ?_
      (refine lwp_drawn2 hC (by rw [hP]; exact mixed) ⟨[], [], []⟩ (told0 _ _) [0, 0, 0, 0, 0, 0, 48, 112, 0, 0, 768, 1792, 4083, 8179, 16383, 32767] 13 12 rfl ?_ ?_; rotate_left 1)
      · rw [e1, e2]
        repeat first | refine lwp_seq fun K hK => ?_ | ((with_reducible refine gA ?_); apply_assumption -exfalso -symm) | refine gB ?_ | refine gC ?_ | refine gD ?_ | refine gE ?_ | refine gF rfl ?_ | refine gG rfl ?_ | refine gH ?_ | refine gI ?_ | refine gJ ?_ | refine gK ?_ | refine gL ?_ | refine gM hC rfl ⟨⟩ ?_ | refine gM hC rfl (by exact sd) ?_
        refine gA ⟨k + 1, ?_, ?_, sub_intro hm [(0, some 0)] rfl ?_⟩
        · omega
        · omega
        · refine ⟨e3, ?_⟩
          clear e3
          exact sd
      · clear e3
        simp only [e1, e2, revK_length, if_neg e4]
        exact sd
    · have hR := revK_all thD l k (by omega)
      repeat first | refine lwp_seq fun K hK => ?_ | ((with_reducible refine gA ?_); apply_assumption -exfalso -symm) | refine gB ?_ | refine gC ?_ | refine gD ?_ | refine gE ?_ | refine gF rfl ?_ | refine gG rfl ?_ | refine gH ?_ | refine gI ?_ | refine gJ ?_ | refine gK ?_ | refine gL ?_ | refine gM hC rfl ⟨⟩ ?_ | refine gM hC rfl (by exact sd) ?_
      rw [hR]
      (refine end_intro (by first | exact .inr rfl | exact .inl rfl) [(0, some 0)] rfl ?_)
      exact sd
theorem RevP_step (l : List (Int × Int)) (k : Nat) (h : k < l.length - 1 - k) : (prC (revK (0, 0) l (k + 1))).cells = (Cont.gen (revK (0, 0) l k).length 2 fun q => if q = l.length - 1 - k then lay ((fun q => if q = k then lay ((fun i => prV ((revK (0, 0) l k).getD i (0, 0))) k) 0 (prV ((revK (0, 0) l k).getD (l.length - 1 - k) (0, 0))) else (fun i => prV ((revK (0, 0) l k).getD i (0, 0))) q) (l.length - 1 - k)) 0 (prV ((revK (0, 0) l k).getD k (0, 0))) else (fun q => if q = k then lay ((fun i => prV ((revK (0, 0) l k).getD i (0, 0))) k) 0 (prV ((revK (0, 0) l k).getD (l.length - 1 - k) (0, 0))) else (fun i => prV ((revK (0, 0) l k).getD i (0, 0))) q) q).cells := by
  rw [show (prC (revK (0, 0) l (k + 1))).cells = (Cont.gen (revK (0, 0) l (k + 1)).length 2 fun q => prV ((revK (0, 0) l (k + 1)).getD q (0, 0))).cells from rfl, revK_length, revK_length]
  refine gen_congr fun q hq => ?_
  dsimp only
  rw [revK_at (0, 0) l (k + 1) q hq]
  by_cases h1 : q = l.length - 1 - k
  · rw [if_pos h1, if_neg (show ¬ l.length - 1 - k = k by omega), if_pos (by omega), revK_at (0, 0) l k k (by omega), if_neg (by omega), show l.length - 1 - q = k by omega]
    rfl
  · rw [if_neg h1]
    by_cases h2 : q = k
    · rw [if_pos h2, if_pos (by omega), revK_at (0, 0) l k (l.length - 1 - k) (by omega), if_neg (by omega), h2]
      rfl
    · rw [if_neg h2, revK_at (0, 0) l k q hq]
      by_cases h3 : q < k ∨ l.length - k ≤ q
      · rw [if_pos h3, if_pos (by omega)]
      · rw [if_neg h3, if_neg (by omega)]
def RevP_i (l : List (Int × Int)) (σ : Ren) : Inst := { f := 118, hin := [(0, .row 75 l.length 2 (prC l))], args := [.sl 0 l.length], hout := [(0, .row 75 l.length 2 (prC l.reverse))], ret := .tup [], σ := σ }
set_option maxRecDepth 20000 in
set_option maxHeartbeats 4000000 in
theorem RevP_s (l : List (Int × Int)) (σ : Ren) (hl : l.length ≤ 1000000) : (RevP_i l σ).ok Tryz.prog := by
  unfold RevP_i Inst.ok; dsimp only; refine spec_of_body (tys := tys) 1 Tryz.func118 (by kernel_rfl) rfl tys_ok rfl (Nat.le_of_ble_eq_true rfl) (fun _ _ h => (by cases h)) fun F hP hm hC hrd => ?_; conv => whnf
  repeat first | refine lwp_seq fun K hK => ?_ | ((with_reducible refine gA ?_); apply_assumption -exfalso -symm) | refine gB ?_ | refine gC ?_ | refine gD ?_ | refine gE ?_ | refine gF rfl ?_ | refine gG rfl ?_ | refine gH ?_ | refine gI ?_ | refine gJ ?_ | refine gK ?_ | refine gL ?_ | refine gM hC rfl ⟨⟩ ?_ | refine gM hC rfl (by exact sd) ?_
  refine lwp_loop (fun k : Nat => ⟨[(2, i64 k), (3, i64 ((l.length : Int) - 1 - k)), (0, .sl 0 l.length)], [(0, .row 75 l.length 2 (prC (revK (0, 0) l k)))], 1⟩) (fun k => 2 * k ≤ l.length) (fun k => l.length - k) 0 ⟨?_, sub_intro hm [(0, some 0)] rfl ?_⟩ ?_
  · omega
  · rw [revK_zero]
    exact sd
  · rintro k hk
    have e1 : (k : Int).toNat = k := Int.toNat_natCast k
    have e2 : ((l.length : Int) - 1 - (k : Int)).toNat = l.length - 1 - k := by omega
    repeat first | refine lwp_seq fun K hK => ?_ | ((with_reducible refine gA ?_); apply_assumption -exfalso -symm) | refine gB ?_ | refine gC ?_ | refine gD ?_ | refine gE ?_ | refine gF rfl ?_ | refine gG rfl ?_ | refine gH ?_ | refine gI ?_ | refine gJ ?_ | refine gK ?_ | refine gL ?_ | refine gM hC rfl ⟨⟩ ?_ | refine gM hC rfl (by exact sd) ?_
    (refine lwp_cond hC rfl (by first | exact ⟨⟩ | exact sd) (fun hb => ?_) (fun hb => ?_) <;> (try simp only [decide_eq_true_eq, decide_eq_false_iff_not, Bool.not_eq_true', Bool.not_eq_false', ne_eq, Decidable.not_not] at hb))
    · have e3 := RevP_step l k (by omega)
      have e4 : ¬ l.length - 1 - k = k := by omega
      repeat first | refine lwp_seq fun K hK => ?_ | ((with_reducible refine gA ?_); apply_assumption -exfalso -symm) | refine gB ?_ | refine gC ?_ | refine gD ?_ | refine gE ?_ | refine gF rfl ?_ | refine gG rfl ?_ | refine gH ?_ | refine gI ?_ | refine gJ ?_ | refine gK ?_ | refine gL ?_ | refine gM hC rfl ⟨⟩ ?_
      (refine lwp_drawn2 hC (by rw [hP]; exact mixed) ⟨[], [], []⟩ (told0 _ _) [0, 0, 0, 0, 0, 0, 48, 112, 0, 0, 768, 1792, 4083, 8179, 16383, 32767] 13 12 rfl ?_ ?_; rotate_left 1)
      · rw [e1, e2]
        repeat first | refine lwp_seq fun K hK => ?_ | ((with_reducible refine gA ?_); apply_assumption -exfalso -symm) | refine gB ?_ | refine gC ?_ | refine gD ?_ | refine gE ?_ | refine gF rfl ?_ | refine gG rfl ?_ | refine gH ?_ | refine gI ?_ | refine gJ ?_ | refine gK ?_ | refine gL ?_ | refine gM hC rfl ⟨⟩ ?_ | refine gM hC rfl (by exact sd) ?_
        refine gA ⟨k + 1, ?_, ?_, sub_intro hm [(0, some 0)] rfl ?_⟩
        · omega
        · omega
        · refine ⟨e3, ?_⟩
          clear e3
          exact sd
      · clear e3
        simp only [e1, e2, revK_length, if_neg e4]
        exact sd
    · have hR := revK_all (0, 0) l k (by omega)
      repeat first | refine lwp_seq fun K hK => ?_ | ((with_reducible refine gA ?_); apply_assumption -exfalso -symm) | refine gB ?_ | refine gC ?_ | refine gD ?_ | refine gE ?_ | refine gF rfl ?_ | refine gG rfl ?_ | refine gH ?_ | refine gI ?_ | refine gJ ?_ | refine gK ?_ | refine gL ?_ | refine gM hC rfl ⟨⟩ ?_ | refine gM hC rfl (by exact sd) ?_
      rw [hR]
      (refine end_intro (by first | exact .inr rfl | exact .inl rfl) [(0, some 0)] rfl ?_)
      exact sd

end Go.Proofs.YtfmnfagcbehmdaaGreatDoor
