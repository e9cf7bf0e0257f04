/- Chapter 5: things turned, lists put together. -/
import Derived.Test.YtoopgdchiljmiaaGreatDoorEk
import Derived.Test.YtoopgdchiljmiaaGreatDoorA5
set_option linter.unusedVariables false
set_option linter.unusedSimpArgs false
namespace Go.Proofs.YtoopgdchiljmiaaGreatDoor
open Go.RowKit Go.Sym

def turnL (p : Int) (l : List Th) : List Th := (l.map (turnT p)).reverse
theorem turnL_len (p : Int) (l : List Th) : (turnL p l).length = l.length := by simp [turnL]
def PTu_i (p : Int) (l : List Th) (σ : Ren) : Inst := { f := 134, hin := [(0, .ro l.length 2 (thC l))], args := [.sl 0 l.length, i64 p], hout := [(1, .row 227 (turnL p l).length 2 (thC (turnL p l)))], ret := .sl 1 (turnL p l).length, σ := σ }
set_option maxRecDepth 20000 in
theorem PTu_s (p : Int) (l : List Th) (σ : Ren) (hl : l.length ≤ 1000000) (hp : 0 ≤ p ∧ p ≤ 100000000) (hv : placesOk l) : (PTu_i p l σ).ok Tryz.prog := by
  have e1 := turnL_len p l
  have e2 : (l.map (turnT p)).length = l.length := List.length_map _
  unfold PTu_i Inst.ok; dsimp only; refine spec_of_body (tys := tys) 1 Tryz.func134 (by kernel_rfl) rfl tys_ok rfl (Nat.le_of_ble_eq_true rfl) (fun _ _ h => (by cases h)) fun F hP hm hC hrd => ?_; conv => whnf
  repeat first | refine lwp_seq fun K hK => ?_ | ((with_reducible refine gA ?_); apply_assumption -exfalso -symm) | refine gB ?_ | refine gC ?_ | refine gD ?_ | refine gE ?_ | refine gF rfl ?_ | refine gG rfl ?_ | refine gH ?_ | refine gI ?_ | refine gJ ?_ | refine gK ?_ | refine gL ?_ | refine lwp_region hC ⟨[], [], []⟩ (told0 _ _) rfl ⟨⟩ ?_
  (refine lwp_region hC ⟨[], [], [(2, TMap_i p l [(0, some 0), (1, some 1)])]⟩ (told1 _ (by rw [hP]; exact (calls_cons (TMap_s _ _ _ hl hp hv) calls_nil))) rfl ?_ ?_; rotate_left 1)
  · repeat first | refine lwp_seq fun K hK => ?_ | ((with_reducible refine gA ?_); apply_assumption -exfalso -symm) | refine gB ?_ | refine gC ?_ | refine gD ?_ | refine gE ?_ | refine gF rfl ?_ | refine gG rfl ?_ | refine gH ?_ | refine gI ?_ | refine gJ ?_ | refine gK ?_ | refine gL ?_ | refine lwp_region hC ⟨[], [], []⟩ (told0 _ _) rfl ⟨⟩ ?_
    (refine lwp_region hC ⟨[], [], [(1, Rev_i (l.map (turnT p)) [(0, some 2)])]⟩ (told1 _ (by rw [hP]; exact (calls_cons (Rev_s _ _ (by rw [List.length_map]; exact hl)) calls_nil))) rfl ?_ ?_; rotate_left 1)
    · repeat first | refine lwp_seq fun K hK => ?_ | ((with_reducible refine gA ?_); apply_assumption -exfalso -symm) | refine gB ?_ | refine gC ?_ | refine gD ?_ | refine gE ?_ | refine gF rfl ?_ | refine gG rfl ?_ | refine gH ?_ | refine gI ?_ | refine gJ ?_ | refine gK ?_ | refine gL ?_ | refine lwp_region hC ⟨[], [], []⟩ (told0 _ _) rfl ⟨⟩ ?_ | refine lwp_region hC ⟨[], [], []⟩ (told0 _ _) rfl (by exact sd) ?_
      (refine end_intro (by first | exact .inr rfl | exact .inl rfl) [(1, some 2)] rfl ?_)
      rw [show (l.map (turnT p)).reverse = turnL p l from rfl]
      exact sd
    · exact sd
  · exact sd

def Grow0_i : Inst := { f := 193, hin := [], args := [.lit (.slice none 0 0), i64 0], hout := [], ret := .lit (.slice none 0 0), σ := [] }
theorem Grow0_s : Grow0_i.ok Tryz.prog := chkI_ok stat5_ok (n := 300) (by kernel_rfl)
def Grow_i (n : Nat) : Inst := { f := 193, hin := [], args := [.lit (.slice none 0 0), i64 n], hout := [(1, .row 227 0 2 (.exp []))], ret := .sl 1 0, σ := [] }
theorem grow_all : ((List.range 200).all fun i => chkI stat5 300 (Grow_i (i + 1))) = true := by kernel_rfl
theorem Grow_s (n : Nat) (h1 : 1 ≤ n) (h2 : n ≤ 200) : (Grow_i n).ok Tryz.prog := by
  have := List.all_eq_true.1 grow_all (n - 1) (List.mem_range.2 (by omega))
  rw [show n - 1 + 1 = n by omega] at this
  exact chkI_ok stat5_ok this

theorem thC_append (a b : List Th) : (thC (a ++ b)).cells = (thC a).cells ++ (thC b).cells := by
  have h : ∀ l : List Th, (thC l).cells = (l.flatMap thV).map AV.lit := fun l => genL_cells (f := thV) (fun _ => rfl) l
  rw [h, h, h, List.flatMap_append, List.map_append]
theorem thC_one (l : List Th) : ∀ q, q < l.length * 2 → ((thV (l.getD (q / 2) thD)).getD (q % 2) undef).oneCell' = true := by
  intro q _
  rcases (by omega : q % 2 = 0 ∨ q % 2 = 1) with e | e <;> rw [e] <;> rfl
def sumK (a b : List Th) (k : Nat) : Int := if k = 0 then 0 else if k = 1 then a.length else a.length + b.length
def catK (a b : List Th) (k : Nat) : List Th := if k = 0 then [] else if k = 1 then a else a ++ b
def Cat_i (a b : List Th) (σ : Ren) : Inst := { f := 140, hin := [(0, .ro 2 1 (.exp [.sl 1 a.length, .sl 2 b.length])), (1, .ro a.length 2 (thC a)), (2, .ro b.length 2 (thC b))], args := [.sl 0 2], hout := [(3, .row 227 (a ++ b).length 2 (thC (a ++ b)))], ret := .sl 3 (a ++ b).length, σ := σ }
set_option maxRecDepth 20000 in
set_option maxHeartbeats 4000000 in
theorem Cat_s (a b : List Th) (σ : Ren) (ha : a.length ≤ 64) (hb' : b.length ≤ 64) : (Cat_i a b σ).ok Tryz.prog := by
  unfold Cat_i Inst.ok; dsimp only; refine spec_of_body (tys := tys) 3 Tryz.func140 (by kernel_rfl) rfl tys_ok rfl (Nat.le_of_ble_eq_true rfl) (fun _ _ h => (by cases h)) fun F hP hm hC hrd => ?_; conv => whnf
  repeat first | refine lwp_seq fun K hK => ?_ | ((with_reducible refine gA ?_); apply_assumption -exfalso -symm) | refine gB ?_ | refine gC ?_ | refine gD ?_ | refine gE ?_ | refine gF rfl ?_ | refine gG rfl ?_ | refine gH ?_ | refine gI ?_ | refine gJ ?_ | refine gK ?_ | refine gL ?_ | refine lwp_region hC ⟨[], [], []⟩ (told0 _ _) rfl ⟨⟩ ?_ | refine lwp_region hC ⟨[], [], []⟩ (told0 _ _) rfl (by exact sd) ?_
  refine lwp_loop (fun k : Nat => ⟨[(11, i64 k), (10, i64 2), (9, .sl 0 2), (0, .sl 0 2), (3, i64 (sumK a b k))], [(0, .ro 2 1 (.exp [.sl 1 a.length, .sl 2 b.length])), (1, .ro a.length 2 (thC a)), (2, .ro b.length 2 (thC b))], 3⟩) (fun k => k ≤ 2) (fun k => 2 - k) 0 ⟨?_, sub_intro hm [(0, some 0), (1, some 1), (2, some 2)] rfl ?_⟩ ?_
  · omega
  · unfold sumK
    exact sd
  · rintro k hk
    have hk3 : k = 0 ∨ k = 1 ∨ k = 2 := by omega
    rcases hk3 with rfl | rfl | rfl
    · rw [show sumK a b 0 = 0 from rfl]
      repeat first | refine lwp_seq fun K hK => ?_ | ((with_reducible refine gA ?_); apply_assumption -exfalso -symm) | refine gB ?_ | refine gC ?_ | refine gD ?_ | refine gE ?_ | refine gF rfl ?_ | refine gG rfl ?_ | refine gH ?_ | refine gI ?_ | refine gJ ?_ | refine gK ?_ | refine gL ?_ | refine lwp_region hC ⟨[], [], []⟩ (told0 _ _) rfl ⟨⟩ ?_ | refine lwp_region hC ⟨[], [], []⟩ (told0 _ _) rfl (by exact sd) ?_
      (refine lwp_cond hC rfl (by first | exact ⟨⟩ | exact sd) (fun hb => ?_) (fun hb => ?_) <;> (try simp only [decide_eq_true_eq, decide_eq_false_iff_not, Bool.not_eq_true', Bool.not_eq_false', ne_eq, Decidable.not_not] at hb))
      · repeat first | refine lwp_seq fun K hK => ?_ | ((with_reducible refine gA ?_); apply_assumption -exfalso -symm) | refine gB ?_ | refine gC ?_ | refine gD ?_ | refine gE ?_ | refine gF rfl ?_ | refine gG rfl ?_ | refine gH ?_ | refine gI ?_ | refine gJ ?_ | refine gK ?_ | refine gL ?_ | refine lwp_region hC ⟨[], [], []⟩ (told0 _ _) rfl ⟨⟩ ?_ | refine lwp_region hC ⟨[], [], []⟩ (told0 _ _) rfl (by exact sd) ?_
        (refine lwp_cond hC rfl (by first | exact ⟨⟩ | exact sd) (fun hb => ?_) (fun hb => ?_) <;> (try simp only [decide_eq_true_eq, decide_eq_false_iff_not, Bool.not_eq_true', Bool.not_eq_false', ne_eq, Decidable.not_not] at hb))
        · exact absurd hb (by omega)
        · clear hb
          repeat first | refine lwp_seq fun K hK => ?_ | ((with_reducible refine gA ?_); apply_assumption -exfalso -symm) | refine gB ?_ | refine gC ?_ | refine gD ?_ | refine gE ?_ | refine gF rfl ?_ | refine gG rfl ?_ | refine gH ?_ | refine gI ?_ | refine gJ ?_ | refine gK ?_ | refine gL ?_ | refine lwp_region hC ⟨[], [], []⟩ (told0 _ _) rfl ⟨⟩ ?_ | refine lwp_region hC ⟨[], [], []⟩ (told0 _ _) rfl (by exact sd) ?_
          refine gA ⟨0 + 1, ?_, ?_, sub_intro hm [(0, some 0), (1, some 1), (2, some 2)] rfl ?_⟩
          · omega
          · omega
          · rw [show sumK a b (0 + 1) = a.length from rfl]
            exact sd
      · exact absurd hb (by omega)
    · rw [show sumK a b 1 = a.length from rfl]
      repeat first | refine lwp_seq fun K hK => ?_ | ((with_reducible refine gA ?_); apply_assumption -exfalso -symm) | refine gB ?_ | refine gC ?_ | refine gD ?_ | refine gE ?_ | refine gF rfl ?_ | refine gG rfl ?_ | refine gH ?_ | refine gI ?_ | refine gJ ?_ | refine gK ?_ | refine gL ?_ | refine lwp_region hC ⟨[], [], []⟩ (told0 _ _) rfl ⟨⟩ ?_ | refine lwp_region hC ⟨[], [], []⟩ (told0 _ _) rfl (by exact sd) ?_
      (refine lwp_cond hC rfl (by first | exact ⟨⟩ | exact sd) (fun hb => ?_) (fun hb => ?_) <;> (try simp only [decide_eq_true_eq, decide_eq_false_iff_not, Bool.not_eq_true', Bool.not_eq_false', ne_eq, Decidable.not_not] at hb))
      · repeat first | refine lwp_seq fun K hK => ?_ | ((with_reducible refine gA ?_); apply_assumption -exfalso -symm) | refine gB ?_ | refine gC ?_ | refine gD ?_ | refine gE ?_ | refine gF rfl ?_ | refine gG rfl ?_ | refine gH ?_ | refine gI ?_ | refine gJ ?_ | refine gK ?_ | refine gL ?_ | refine lwp_region hC ⟨[], [], []⟩ (told0 _ _) rfl ⟨⟩ ?_ | refine lwp_region hC ⟨[], [], []⟩ (told0 _ _) rfl (by exact sd) ?_
        (refine lwp_cond hC rfl (by first | exact ⟨⟩ | exact sd) (fun hb => ?_) (fun hb => ?_) <;> (try simp only [decide_eq_true_eq, decide_eq_false_iff_not, Bool.not_eq_true', Bool.not_eq_false', ne_eq, Decidable.not_not] at hb))
        · exact absurd hb (by omega)
        · clear hb
          repeat first | refine lwp_seq fun K hK => ?_ | ((with_reducible refine gA ?_); apply_assumption -exfalso -symm) | refine gB ?_ | refine gC ?_ | refine gD ?_ | refine gE ?_ | refine gF rfl ?_ | refine gG rfl ?_ | refine gH ?_ | refine gI ?_ | refine gJ ?_ | refine gK ?_ | refine gL ?_ | refine lwp_region hC ⟨[], [], []⟩ (told0 _ _) rfl ⟨⟩ ?_ | refine lwp_region hC ⟨[], [], []⟩ (told0 _ _) rfl (by exact sd) ?_
          refine gA ⟨1 + 1, ?_, ?_, sub_intro hm [(0, some 0), (1, some 1), (2, some 2)] rfl ?_⟩
          · omega
          · omega
          · rw [show sumK a b (1 + 1) = a.length + b.length from rfl]
            exact sd
      · exact absurd hb (by omega)
    · rw [show sumK a b 2 = a.length + b.length from rfl]
      repeat first | refine lwp_seq fun K hK => ?_ | ((with_reducible refine gA ?_); apply_assumption -exfalso -symm) | refine gB ?_ | refine gC ?_ | refine gD ?_ | refine gE ?_ | refine gF rfl ?_ | refine gG rfl ?_ | refine gH ?_ | refine gI ?_ | refine gJ ?_ | refine gK ?_ | refine gL ?_ | refine lwp_region hC ⟨[], [], []⟩ (told0 _ _) rfl ⟨⟩ ?_ | refine lwp_region hC ⟨[], [], []⟩ (told0 _ _) rfl (by exact sd) ?_
      (refine lwp_cond hC rfl (by first | exact ⟨⟩ | exact sd) (fun hb => ?_) (fun hb => ?_) <;> (try simp only [decide_eq_true_eq, decide_eq_false_iff_not, Bool.not_eq_true', Bool.not_eq_false', ne_eq, Decidable.not_not] at hb))
      · exact absurd hb (by omega)
      · clear hb
        by_cases h0 : a.length + b.length = 0
        · have h1 : a.length = 0 := by omega
          have h2 : b.length = 0 := by omega
          have ea := List.eq_nil_of_length_eq_zero h1
          have eb := List.eq_nil_of_length_eq_zero h2
          repeat first | refine lwp_seq fun K hK => ?_ | ((with_reducible refine gA ?_); apply_assumption -exfalso -symm) | refine gB ?_ | refine gC ?_ | refine gD ?_ | refine gE ?_ | refine gF rfl ?_ | refine gG rfl ?_ | refine gH ?_ | refine gI ?_ | refine gJ ?_ | refine gK ?_ | refine gL ?_ | refine lwp_region hC ⟨[], [], []⟩ (told0 _ _) rfl ⟨⟩ ?_
          (refine lwp_region hC ⟨[], [], [(1, Grow0_i)]⟩ (told1 _ (by rw [hP]; exact (calls_cons (Grow0_s) calls_nil))) rfl ?_ ?_; rotate_left 1)
          · repeat first | refine lwp_seq fun K hK => ?_ | ((with_reducible refine gA ?_); apply_assumption -exfalso -symm) | refine gB ?_ | refine gC ?_ | refine gD ?_ | refine gE ?_ | refine gF rfl ?_ | refine gG rfl ?_ | refine gH ?_ | refine gI ?_ | refine gJ ?_ | refine gK ?_ | refine gL ?_ | refine lwp_region hC ⟨[], [], []⟩ (told0 _ _) rfl ⟨⟩ ?_ | refine lwp_region hC ⟨[], [], []⟩ (told0 _ _) rfl (by exact sd) ?_
            refine lwp_loop (fun k : Nat => ⟨[(27, i64 k), (26, i64 2), (25, .sl 0 2), (0, .sl 0 2), (6, .sl 3 (catK a b k).length)], [(3, .row 227 (catK a b k).length 2 (thC (catK a b k))), (0, .ro 2 1 (.exp [.sl 1 a.length, .sl 2 b.length])), (1, .ro a.length 2 (thC a)), (2, .ro b.length 2 (thC b))], 4⟩) (fun k => k ≤ 2) (fun k => 2 - k) 0 ⟨?_, sub_intro hm [(0, some 0), (1, some 1), (2, some 2), (3, none)] rfl ?_⟩ ?_
            · omega
            · rw [show catK a b 0 = [] from rfl]
              exact sd
            · clear hk
              rintro k hk
              have hk3 : k = 0 ∨ k = 1 ∨ k = 2 := by omega
              have o1 := thC_one a
              have o2 := thC_one b
              rcases hk3 with rfl | rfl | rfl
              · rw [show catK a b 0 = [] from rfl]
                repeat first | refine lwp_seq fun K hK => ?_ | ((with_reducible refine gA ?_); apply_assumption -exfalso -symm) | refine gB ?_ | refine gC ?_ | refine gD ?_ | refine gE ?_ | refine gF rfl ?_ | refine gG rfl ?_ | refine gH ?_ | refine gI ?_ | refine gJ ?_ | refine gK ?_ | refine gL ?_ | refine lwp_region hC ⟨[], [], []⟩ (told0 _ _) rfl ⟨⟩ ?_ | refine lwp_region hC ⟨[], [], []⟩ (told0 _ _) rfl (by exact sd) ?_
                (refine lwp_cond hC rfl (by first | exact ⟨⟩ | exact sd) (fun hb => ?_) (fun hb => ?_) <;> (try simp only [decide_eq_true_eq, decide_eq_false_iff_not, Bool.not_eq_true', Bool.not_eq_false', ne_eq, Decidable.not_not] at hb))
                · repeat first | refine lwp_seq fun K hK => ?_ | ((with_reducible refine gA ?_); apply_assumption -exfalso -symm) | refine gB ?_ | refine gC ?_ | refine gD ?_ | refine gE ?_ | refine gF rfl ?_ | refine gG rfl ?_ | refine gH ?_ | refine gI ?_ | refine gJ ?_ | refine gK ?_ | refine gL ?_ | refine lwp_region hC ⟨[], [], []⟩ (told0 _ _) rfl ⟨⟩ ?_
                  (refine lwp_region hC ⟨[], [], []⟩ (told0 _ _) rfl ?_ ?_; rotate_left 1)
                  · repeat first | refine lwp_seq fun K hK => ?_ | ((with_reducible refine gA ?_); apply_assumption -exfalso -symm) | refine gB ?_ | refine gC ?_ | refine gD ?_ | refine gE ?_ | refine gF rfl ?_ | refine gG rfl ?_ | refine gH ?_ | refine gI ?_ | refine gJ ?_ | refine gK ?_ | refine gL ?_ | refine lwp_region hC ⟨[], [], []⟩ (told0 _ _) rfl ⟨⟩ ?_ | refine lwp_region hC ⟨[], [], []⟩ (told0 _ _) rfl (by exact sd) ?_
                    refine gA ⟨0 + 1, ?_, ?_, sub_intro hm [(0, some 0), (1, some 1), (2, some 2), (3, some 4)] rfl ?_⟩
                    · omega
                    · omega
                    · rw [show catK a b (0 + 1) = a from rfl]
                      have e2 : (thC a).cells = (catC (thC []) (thC a)).cells := by rw [catC_cells]; rfl
                      exact sd
                  · exact sd
                · exact absurd hb (by omega)
              · rw [show catK a b 1 = a from rfl]
                repeat first | refine lwp_seq fun K hK => ?_ | ((with_reducible refine gA ?_); apply_assumption -exfalso -symm) | refine gB ?_ | refine gC ?_ | refine gD ?_ | refine gE ?_ | refine gF rfl ?_ | refine gG rfl ?_ | refine gH ?_ | refine gI ?_ | refine gJ ?_ | refine gK ?_ | refine gL ?_ | refine lwp_region hC ⟨[], [], []⟩ (told0 _ _) rfl ⟨⟩ ?_ | refine lwp_region hC ⟨[], [], []⟩ (told0 _ _) rfl (by exact sd) ?_
                (refine lwp_cond hC rfl (by first | exact ⟨⟩ | exact sd) (fun hb => ?_) (fun hb => ?_) <;> (try simp only [decide_eq_true_eq, decide_eq_false_iff_not, Bool.not_eq_true', Bool.not_eq_false', ne_eq, Decidable.not_not] at hb))
                · repeat first | refine lwp_seq fun K hK => ?_ | ((with_reducible refine gA ?_); apply_assumption -exfalso -symm) | refine gB ?_ | refine gC ?_ | refine gD ?_ | refine gE ?_ | refine gF rfl ?_ | refine gG rfl ?_ | refine gH ?_ | refine gI ?_ | refine gJ ?_ | refine gK ?_ | refine gL ?_ | refine lwp_region hC ⟨[], [], []⟩ (told0 _ _) rfl ⟨⟩ ?_
                  (refine lwp_region hC ⟨[], [], []⟩ (told0 _ _) rfl ?_ ?_; rotate_left 1)
                  · repeat first | refine lwp_seq fun K hK => ?_ | ((with_reducible refine gA ?_); apply_assumption -exfalso -symm) | refine gB ?_ | refine gC ?_ | refine gD ?_ | refine gE ?_ | refine gF rfl ?_ | refine gG rfl ?_ | refine gH ?_ | refine gI ?_ | refine gJ ?_ | refine gK ?_ | refine gL ?_ | refine lwp_region hC ⟨[], [], []⟩ (told0 _ _) rfl ⟨⟩ ?_ | refine lwp_region hC ⟨[], [], []⟩ (told0 _ _) rfl (by exact sd) ?_
                    refine gA ⟨1 + 1, ?_, ?_, sub_intro hm [(0, some 0), (1, some 1), (2, some 2), (3, some 4)] rfl ?_⟩
                    · omega
                    · omega
                    · rw [show catK a b (1 + 1) = a ++ b from rfl, List.length_append]
                      have e2 : (thC (a ++ b)).cells = (catC (thC a) (thC b)).cells := by rw [catC_cells, thC_append]
                      exact sd
                  · exact sd
                · exact absurd hb (by omega)
              · rw [show catK a b 2 = a ++ b from rfl]
                repeat first | refine lwp_seq fun K hK => ?_ | ((with_reducible refine gA ?_); apply_assumption -exfalso -symm) | refine gB ?_ | refine gC ?_ | refine gD ?_ | refine gE ?_ | refine gF rfl ?_ | refine gG rfl ?_ | refine gH ?_ | refine gI ?_ | refine gJ ?_ | refine gK ?_ | refine gL ?_ | refine lwp_region hC ⟨[], [], []⟩ (told0 _ _) rfl ⟨⟩ ?_ | refine lwp_region hC ⟨[], [], []⟩ (told0 _ _) rfl (by exact sd) ?_
                (refine lwp_cond hC rfl (by first | exact ⟨⟩ | exact sd) (fun hb => ?_) (fun hb => ?_) <;> (try simp only [decide_eq_true_eq, decide_eq_false_iff_not, Bool.not_eq_true', Bool.not_eq_false', ne_eq, Decidable.not_not] at hb))
                · exact absurd hb (by omega)
                · clear hb
                  repeat first | refine lwp_seq fun K hK => ?_ | ((with_reducible refine gA ?_); apply_assumption -exfalso -symm) | refine gB ?_ | refine gC ?_ | refine gD ?_ | refine gE ?_ | refine gF rfl ?_ | refine gG rfl ?_ | refine gH ?_ | refine gI ?_ | refine gJ ?_ | refine gK ?_ | refine gL ?_ | refine lwp_region hC ⟨[], [], []⟩ (told0 _ _) rfl ⟨⟩ ?_ | refine lwp_region hC ⟨[], [], []⟩ (told0 _ _) rfl (by exact sd) ?_
                  (refine end_intro (by first | exact .inr rfl | exact .inl rfl) [(3, some 3)] rfl ?_)
                  exact sd
          · exact sd
        · repeat first | refine lwp_seq fun K hK => ?_ | ((with_reducible refine gA ?_); apply_assumption -exfalso -symm) | refine gB ?_ | refine gC ?_ | refine gD ?_ | refine gE ?_ | refine gF rfl ?_ | refine gG rfl ?_ | refine gH ?_ | refine gI ?_ | refine gJ ?_ | refine gK ?_ | refine gL ?_ | refine lwp_region hC ⟨[], [], []⟩ (told0 _ _) rfl ⟨⟩ ?_
          (refine lwp_region hC ⟨[], [], [(1, Grow_i (a.length + b.length))]⟩ (told1 _ (by rw [hP]; exact (calls_cons (Grow_s _ (by omega) (by omega)) calls_nil))) rfl ?_ ?_; rotate_left 1)
          · repeat first | refine lwp_seq fun K hK => ?_ | ((with_reducible refine gA ?_); apply_assumption -exfalso -symm) | refine gB ?_ | refine gC ?_ | refine gD ?_ | refine gE ?_ | refine gF rfl ?_ | refine gG rfl ?_ | refine gH ?_ | refine gI ?_ | refine gJ ?_ | refine gK ?_ | refine gL ?_ | refine lwp_region hC ⟨[], [], []⟩ (told0 _ _) rfl ⟨⟩ ?_ | refine lwp_region hC ⟨[], [], []⟩ (told0 _ _) rfl (by exact sd) ?_
            refine lwp_loop (fun k : Nat => ⟨[(27, i64 k), (26, i64 2), (25, .sl 0 2), (0, .sl 0 2), (6, .sl 3 (catK a b k).length)], [(3, .row 227 (catK a b k).length 2 (thC (catK a b k))), (0, .ro 2 1 (.exp [.sl 1 a.length, .sl 2 b.length])), (1, .ro a.length 2 (thC a)), (2, .ro b.length 2 (thC b))], 4⟩) (fun k => k ≤ 2) (fun k => 2 - k) 0 ⟨?_, sub_intro hm [(0, some 0), (1, some 1), (2, some 2), (3, some 3)] rfl ?_⟩ ?_
            · omega
            · rw [show catK a b 0 = [] from rfl]
              exact sd
            · clear hk
              rintro k hk
              have hk3 : k = 0 ∨ k = 1 ∨ k = 2 := by omega
              have o1 := thC_one a
              have o2 := thC_one b
              rcases hk3 with rfl | rfl | rfl
              · rw [show catK a b 0 = [] from rfl]
                repeat first | refine lwp_seq fun K hK => ?_ | ((with_reducible refine gA ?_); apply_assumption -exfalso -symm) | refine gB ?_ | refine gC ?_ | refine gD ?_ | refine gE ?_ | refine gF rfl ?_ | refine gG rfl ?_ | refine gH ?_ | refine gI ?_ | refine gJ ?_ | refine gK ?_ | refine gL ?_ | refine lwp_region hC ⟨[], [], []⟩ (told0 _ _) rfl ⟨⟩ ?_ | refine lwp_region hC ⟨[], [], []⟩ (told0 _ _) rfl (by exact sd) ?_
                (refine lwp_cond hC rfl (by first | exact ⟨⟩ | exact sd) (fun hb => ?_) (fun hb => ?_) <;> (try simp only [decide_eq_true_eq, decide_eq_false_iff_not, Bool.not_eq_true', Bool.not_eq_false', ne_eq, Decidable.not_not] at hb))
                · repeat first | refine lwp_seq fun K hK => ?_ | ((with_reducible refine gA ?_); apply_assumption -exfalso -symm) | refine gB ?_ | refine gC ?_ | refine gD ?_ | refine gE ?_ | refine gF rfl ?_ | refine gG rfl ?_ | refine gH ?_ | refine gI ?_ | refine gJ ?_ | refine gK ?_ | refine gL ?_ | refine lwp_region hC ⟨[], [], []⟩ (told0 _ _) rfl ⟨⟩ ?_
                  (refine lwp_region hC ⟨[], [], []⟩ (told0 _ _) rfl ?_ ?_; rotate_left 1)
                  · repeat first | refine lwp_seq fun K hK => ?_ | ((with_reducible refine gA ?_); apply_assumption -exfalso -symm) | refine gB ?_ | refine gC ?_ | refine gD ?_ | refine gE ?_ | refine gF rfl ?_ | refine gG rfl ?_ | refine gH ?_ | refine gI ?_ | refine gJ ?_ | refine gK ?_ | refine gL ?_ | refine lwp_region hC ⟨[], [], []⟩ (told0 _ _) rfl ⟨⟩ ?_ | refine lwp_region hC ⟨[], [], []⟩ (told0 _ _) rfl (by exact sd) ?_
                    refine gA ⟨0 + 1, ?_, ?_, sub_intro hm [(0, some 0), (1, some 1), (2, some 2), (3, some 4)] rfl ?_⟩
                    · omega
                    · omega
                    · rw [show catK a b (0 + 1) = a from rfl]
                      have e2 : (thC a).cells = (catC (thC []) (thC a)).cells := by rw [catC_cells]; rfl
                      exact sd
                  · exact sd
                · exact absurd hb (by omega)
              · rw [show catK a b 1 = a from rfl]
                repeat first | refine lwp_seq fun K hK => ?_ | ((with_reducible refine gA ?_); apply_assumption -exfalso -symm) | refine gB ?_ | refine gC ?_ | refine gD ?_ | refine gE ?_ | refine gF rfl ?_ | refine gG rfl ?_ | refine gH ?_ | refine gI ?_ | refine gJ ?_ | refine gK ?_ | refine gL ?_ | refine lwp_region hC ⟨[], [], []⟩ (told0 _ _) rfl ⟨⟩ ?_ | refine lwp_region hC ⟨[], [], []⟩ (told0 _ _) rfl (by exact sd) ?_
                (refine lwp_cond hC rfl (by first | exact ⟨⟩ | exact sd) (fun hb => ?_) (fun hb => ?_) <;> (try simp only [decide_eq_true_eq, decide_eq_false_iff_not, Bool.not_eq_true', Bool.not_eq_false', ne_eq, Decidable.not_not] at hb))
                · repeat first | refine lwp_seq fun K hK => ?_ | ((with_reducible refine gA ?_); apply_assumption -exfalso -symm) | refine gB ?_ | refine gC ?_ | refine gD ?_ | refine gE ?_ | refine gF rfl ?_ | refine gG rfl ?_ | refine gH ?_ | refine gI ?_ | refine gJ ?_ | refine gK ?_ | refine gL ?_ | refine lwp_region hC ⟨[], [], []⟩ (told0 _ _) rfl ⟨⟩ ?_
                  (refine lwp_region hC ⟨[], [], []⟩ (told0 _ _) rfl ?_ ?_; rotate_left 1)
                  · repeat first | refine lwp_seq fun K hK => ?_ | ((with_reducible refine gA ?_); apply_assumption -exfalso -symm) | refine gB ?_ | refine gC ?_ | refine gD ?_ | refine gE ?_ | refine gF rfl ?_ | refine gG rfl ?_ | refine gH ?_ | refine gI ?_ | refine gJ ?_ | refine gK ?_ | refine gL ?_ | refine lwp_region hC ⟨[], [], []⟩ (told0 _ _) rfl ⟨⟩ ?_ | refine lwp_region hC ⟨[], [], []⟩ (told0 _ _) rfl (by exact sd) ?_
                    refine gA ⟨1 + 1, ?_, ?_, sub_intro hm [(0, some 0), (1, some 1), (2, some 2), (3, some 4)] rfl ?_⟩
                    · omega
                    · omega
                    · rw [show catK a b (1 + 1) = a ++ b from rfl, List.length_append]
                      have e2 : (thC (a ++ b)).cells = (catC (thC a) (thC b)).cells := by rw [catC_cells, thC_append]
                      exact sd
                  · exact sd
                · exact absurd hb (by omega)
              · rw [show catK a b 2 = a ++ b from rfl]
                repeat first | refine lwp_seq fun K hK => ?_ | ((with_reducible refine gA ?_); apply_assumption -exfalso -symm) | refine gB ?_ | refine gC ?_ | refine gD ?_ | refine gE ?_ | refine gF rfl ?_ | refine gG rfl ?_ | refine gH ?_ | refine gI ?_ | refine gJ ?_ | refine gK ?_ | refine gL ?_ | refine lwp_region hC ⟨[], [], []⟩ (told0 _ _) rfl ⟨⟩ ?_ | refine lwp_region hC ⟨[], [], []⟩ (told0 _ _) rfl (by exact sd) ?_
                (refine lwp_cond hC rfl (by first | exact ⟨⟩ | exact sd) (fun hb => ?_) (fun hb => ?_) <;> (try simp only [decide_eq_true_eq, decide_eq_false_iff_not, Bool.not_eq_true', Bool.not_eq_false', ne_eq, Decidable.not_not] at hb))
                · exact absurd hb (by omega)
                · clear hb
                  repeat first | refine lwp_seq fun K hK => ?_ | ((with_reducible refine gA ?_); apply_assumption -exfalso -symm) | refine gB ?_ | refine gC ?_ | refine gD ?_ | refine gE ?_ | refine gF rfl ?_ | refine gG rfl ?_ | refine gH ?_ | refine gI ?_ | refine gJ ?_ | refine gK ?_ | refine gL ?_ | refine lwp_region hC ⟨[], [], []⟩ (told0 _ _) rfl ⟨⟩ ?_ | refine lwp_region hC ⟨[], [], []⟩ (told0 _ _) rfl (by exact sd) ?_
                  (refine end_intro (by first | exact .inr rfl | exact .inl rfl) [(3, some 3)] rfl ?_)
                  exact sd
          · exact sd

end Go.Proofs.YtoopgdchiljmiaaGreatDoor
