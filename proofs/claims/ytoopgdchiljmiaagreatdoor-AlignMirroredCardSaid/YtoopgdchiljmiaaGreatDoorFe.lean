/- Chapter 5: an alignment turned, the program's. -/
import Derived.Test.YtoopgdchiljmiaaGreatDoorEk
set_option linter.unusedVariables false
set_option linter.unusedSimpArgs false
namespace Go.Proofs.YtoopgdchiljmiaaGreatDoor
open Go.RowKit Go.Sym

def turnP (m s : List Th) (p : Int × Int) : Int × Int := ((s.length : Int) - 1 - p.1, (m.length : Int) - 1 - p.2)
def turnPL (m s : List Th) (l : List (Int × Int)) : List (Int × Int) := (l.map (turnP m s)).reverse
theorem turnPL_len (m s : List Th) (l : List (Int × Int)) : (turnPL m s l).length = l.length := by simp [turnPL]
def tpIn (m s : List Th) : List (Nat × Chunk) := [(0, .ro m.length 2 (thC m)), (1, .ro s.length 2 (thC s))]
def TP_i (m s : List Th) (p : Int × Int) (σ : Ren) : Inst := { f := 147, hin := [(0, .ro m.length 2 (thC m)), (1, .ro s.length 2 (thC s)), (2, .rb 38 [.sl 0 m.length, .sl 1 s.length])], args := [prA p, .ptr 2 0 0 0], hout := [], ret := prA (turnP m s p), σ := σ }
set_option maxRecDepth 20000 in
theorem TP_s (m s : List Th) (p : Int × Int) (σ : Ren) (hm' : m.length ≤ 1000000) (hs : s.length ≤ 1000000) (hp : inS m s p) : (TP_i m s p σ).ok Tryz.prog := by
  obtain ⟨⟨h1, h2⟩, h3, h4⟩ := hp
  unfold TP_i Inst.ok; dsimp only; refine spec_of_body (tys := tys) 3 Tryz.func147 (by kernel_rfl) rfl tys_ok rfl (Nat.le_of_ble_eq_true rfl) (fun _ _ h => (by cases h)) fun F hP hm hC hrd => ?_; conv => whnf
  repeat first | refine lwp_seq fun K hK => ?_ | ((with_reducible refine gA ?_); apply_assumption -exfalso -symm) | refine gB ?_ | refine gC ?_ | refine gD ?_ | refine gE ?_ | refine gF rfl ?_ | refine gG rfl ?_ | refine gH ?_ | refine gI ?_ | refine gJ ?_ | refine gK ?_ | refine gL ?_ | refine lwp_region hC ⟨[], [], []⟩ (told0 _ _) rfl ⟨⟩ ?_ | refine lwp_region hC ⟨[], [], []⟩ (told0 _ _) rfl (by exact sd) ?_
  all_goals first | exact sd | skip
  (refine end_intro (by first | exact .inr rfl | exact .inl rfl) [] rfl ?_)
  exact ⟨rfl, rfl, trivial⟩
def TPMap_i (m s : List Th) (l : List (Int × Int)) (σ : Ren) : Inst := { f := 146, hin := [(0, .ro m.length 2 (thC m)), (1, .ro s.length 2 (thC s)), (2, .rb 38 [.sl 0 m.length, .sl 1 s.length]), (3, .ro l.length 2 (prC l))], args := [.sl 3 l.length, .fn 147 [] [.ptr 2 0 0 0]], hout := [(4, .row 104 l.length 2 (prC (l.map (turnP m s))))], ret := .sl 4 l.length, σ := σ }
set_option maxRecDepth 20000 in
theorem TPMap_s (m s : List Th) (l : List (Int × Int)) (σ : Ren) (hm' : m.length ≤ 1000000) (hs : s.length ≤ 1000000) (hl : l.length ≤ 1000000) (hv : ∀ i, i < l.length → inS m s (prAt l i)) : (TPMap_i m s l σ).ok Tryz.prog := by
  unfold TPMap_i Inst.ok; dsimp only; refine spec_of_body (tys := tys) 4 Tryz.func146 (by kernel_rfl) rfl tys_ok rfl (Nat.le_of_ble_eq_true rfl) (fun _ _ h => (by cases h)) fun F hP hm hC hrd => ?_; conv => whnf
  repeat first | refine lwp_seq fun K hK => ?_ | ((with_reducible refine gA ?_); apply_assumption -exfalso -symm) | refine gB ?_ | refine gC ?_ | refine gD ?_ | refine gE ?_ | refine gF rfl ?_ | refine gG rfl ?_ | refine gH ?_ | refine gI ?_ | refine gJ ?_ | refine gK ?_ | refine gL ?_ | refine lwp_region hC ⟨[], [], []⟩ (told0 _ _) rfl ⟨⟩ ?_ | refine lwp_region hC ⟨[], [], []⟩ (told0 _ _) rfl (by exact sd) ?_
  refine lwp_loop (fun k : Nat => ⟨[(10, i64 k), (9, i64 l.length), (8, .sl 3 l.length), (5, .sl 4 k), (1, .fn 147 [] [.ptr 2 0 0 0])], [(4, .row 104 k 2 (prC ((l.map (turnP m s)).take k))), (0, .ro m.length 2 (thC m)), (1, .ro s.length 2 (thC s)), (2, .rb 38 [.sl 0 m.length, .sl 1 s.length]), (3, .ro l.length 2 (prC l))], 5⟩) (fun k => k ≤ l.length) (fun k => l.length - k) 0 ⟨?_, sub_intro hm [(0, some 0), (1, some 1), (2, some 2), (3, some 3), (4, none)] rfl ?_⟩ ?_
  · exact Nat.zero_le _
  · exact sd
  · rintro k hk
    have e1 : (k : Int).toNat = k := Int.toNat_natCast k
    repeat first | refine lwp_seq fun K hK => ?_ | ((with_reducible refine gA ?_); apply_assumption -exfalso -symm) | refine gB ?_ | refine gC ?_ | refine gD ?_ | refine gE ?_ | refine gF rfl ?_ | refine gG rfl ?_ | refine gH ?_ | refine gI ?_ | refine gJ ?_ | refine gK ?_ | refine gL ?_ | refine lwp_region hC ⟨[], [], []⟩ (told0 _ _) rfl ⟨⟩ ?_ | refine lwp_region hC ⟨[], [], []⟩ (told0 _ _) rfl (by exact sd) ?_
    (refine lwp_cond hC rfl (by first | exact ⟨⟩ | exact sd) (fun hb => ?_) (fun hb => ?_) <;> (try simp only [decide_eq_true_eq, decide_eq_false_iff_not, Bool.not_eq_true', Bool.not_eq_false', ne_eq, Decidable.not_not] at hb))
    · have hkl : k < l.length := by omega
      repeat first | refine lwp_seq fun K hK => ?_ | ((with_reducible refine gA ?_); apply_assumption -exfalso -symm) | refine gB ?_ | refine gC ?_ | refine gD ?_ | refine gE ?_ | refine gF rfl ?_ | refine gG rfl ?_ | refine gH ?_ | refine gI ?_ | refine gJ ?_ | refine gK ?_ | refine gL ?_ | refine lwp_region hC ⟨[], [], []⟩ (told0 _ _) rfl ⟨⟩ ?_ | refine lwp_region hC ⟨[], [], []⟩ (told0 _ _) rfl (by exact sd) ?_
      (refine lwp_region hC ⟨[], [], [(3, TP_i m s (prAt l k) [(0, some 0), (1, some 1), (2, some 2)])]⟩ (told1 _ (by rw [hP]; exact (calls_cons (TP_s _ _ _ _ hm' hs (hv k hkl)) calls_nil))) rfl ?_ ?_; rotate_left 1)
      · repeat first | refine lwp_seq fun K hK => ?_ | ((with_reducible refine gA ?_); apply_assumption -exfalso -symm) | refine gB ?_ | refine gC ?_ | refine gD ?_ | refine gE ?_ | refine gF rfl ?_ | refine gG rfl ?_ | refine gH ?_ | refine gI ?_ | refine gJ ?_ | refine gK ?_ | refine gL ?_ | refine lwp_region hC ⟨[], [], []⟩ (told0 _ _) rfl ⟨⟩ ?_ | refine lwp_region hC ⟨[], [], []⟩ (told0 _ _) rfl (by exact sd) ?_
        refine gA ⟨k + 1, ?_, ?_, sub_intro hm [(0, some 0), (1, some 1), (2, some 2), (3, some 3), (4, some 8)] rfl ?_⟩
        · omega
        · omega
        · have e := prC_snoc ((l.map (turnP m s)).take k) (turnP m s (prAt l k))
          rw [← map_at (turnP m s) (0, 0) (0, 0) l k hkl, ← take_snoc _ _ _ (by rw [List.length_map]; omega)] at e
          have e2 : (prC ((l.map (turnP m s)).take (k + 1))).cells = (catC (prC ((l.map (turnP m s)).take k)) (Cont.exp [.lit (.int .i64 (turnP m s (prAt l k)).1), .lit (.int .i64 (turnP m s (prAt l k)).2)])).cells := by
            rw [catC_cells, e, map_at (turnP m s) (0, 0) (0, 0) l k hkl]; rfl
          exact sd
      · exact sd
    · repeat first | refine lwp_seq fun K hK => ?_ | ((with_reducible refine gA ?_); apply_assumption -exfalso -symm) | refine gB ?_ | refine gC ?_ | refine gD ?_ | refine gE ?_ | refine gF rfl ?_ | refine gG rfl ?_ | refine gH ?_ | refine gI ?_ | refine gJ ?_ | refine gK ?_ | refine gL ?_ | refine lwp_region hC ⟨[], [], []⟩ (told0 _ _) rfl ⟨⟩ ?_ | refine lwp_region hC ⟨[], [], []⟩ (told0 _ _) rfl (by exact sd) ?_
      (refine end_intro (by first | exact .inr rfl | exact .inl rfl) [(4, some 4)] rfl ?_)
      obtain rfl : k = l.length := by omega
      rw [List.take_of_length_le (by rw [List.length_map]; omega)]
      exact sd

def ptE (m s : List Th) (l : List (Int × Int)) : List (Int × Int) := if checkPairsS m s l ≠ 0 then [] else turnPL m s l
def PTP_i (m s : List Th) (l : List (Int × Int)) (σ : Ren) : Inst := { f := 59, hin := costIn m s l, args := [rdA m s, .sl 2 l.length], hout := [(3, .row 104 (ptE m s l).length 2 (prC (ptE m s l)))], ret := .tup [.sl 3 (ptE m s l).length, i64 (checkPairsS m s l)], σ := σ }
set_option maxRecDepth 20000 in
theorem PTP_s (m s : List Th) (l : List (Int × Int)) (σ : Ren) (hm' : m.length ≤ 1000000) (hs : s.length ≤ 1000000) (hl : l.length ≤ 1000000) : (PTP_i m s l σ).ok Tryz.prog := by
  have l1 := turnPL_len m s l
  have l2 : (l.map (turnP m s)).length = l.length := List.length_map _
  unfold PTP_i Inst.ok; dsimp only; refine spec_of_body (tys := tys) 3 Tryz.func59 (by kernel_rfl) rfl tys_ok rfl (Nat.le_of_ble_eq_true rfl) (fun _ _ h => (by cases h)) fun F hP hm hC hrd => ?_; conv => whnf
  repeat first | refine lwp_seq fun K hK => ?_ | ((with_reducible refine gA ?_); apply_assumption -exfalso -symm) | refine gB ?_ | refine gC ?_ | refine gD ?_ | refine gE ?_ | refine gF rfl ?_ | refine gG rfl ?_ | refine gH ?_ | refine gI ?_ | refine gJ ?_ | refine gK ?_ | refine gL ?_ | refine lwp_region hC ⟨[], [], []⟩ (told0 _ _) rfl ⟨⟩ ?_ | refine lwp_region hC ⟨[], [], []⟩ (told0 _ _) rfl (by exact sd) ?_
  (refine lwp_region hC ⟨[], [], [(2, Pairs_i m s l [(0, some 0), (1, some 1), (2, some 2)])]⟩ (told1 _ (by rw [hP]; exact (calls_cons (Pairs_s _ _ _ _ hm' hs hl) calls_nil))) rfl ?_ ?_; rotate_left 1)
  · repeat first | refine lwp_seq fun K hK => ?_ | ((with_reducible refine gA ?_); apply_assumption -exfalso -symm) | refine gB ?_ | refine gC ?_ | refine gD ?_ | refine gE ?_ | refine gF rfl ?_ | refine gG rfl ?_ | refine gH ?_ | refine gI ?_ | refine gJ ?_ | refine gK ?_ | refine gL ?_ | refine lwp_region hC ⟨[], [], []⟩ (told0 _ _) rfl ⟨⟩ ?_ | refine lwp_region hC ⟨[], [], []⟩ (told0 _ _) rfl (by exact sd) ?_
    (refine lwp_cond hC rfl (by first | exact ⟨⟩ | exact sd) (fun hb => ?_) (fun hb => ?_) <;> (try simp only [decide_eq_true_eq, decide_eq_false_iff_not, Bool.not_eq_true', Bool.not_eq_false', ne_eq, Decidable.not_not] at hb))
    · have hE : ptE m s l = [] := if_pos hb
      rw [hE]
      repeat first | refine lwp_seq fun K hK => ?_ | ((with_reducible refine gA ?_); apply_assumption -exfalso -symm) | refine gB ?_ | refine gC ?_ | refine gD ?_ | refine gE ?_ | refine gF rfl ?_ | refine gG rfl ?_ | refine gH ?_ | refine gI ?_ | refine gJ ?_ | refine gK ?_ | refine gL ?_ | refine lwp_region hC ⟨[], [], []⟩ (told0 _ _) rfl ⟨⟩ ?_ | refine lwp_region hC ⟨[], [], []⟩ (told0 _ _) rfl (by exact sd) ?_
      (refine end_intro (by first | exact .inr rfl | exact .inl rfl) [(3, none)] rfl ?_)
      exact sd
    · have hE : ptE m s l = turnPL m s l := by unfold ptE; rw [if_neg (by rw [hb]; decide)]
      have hg := good_of hb
      rw [hE, hb]
      repeat first | refine lwp_seq fun K hK => ?_ | ((with_reducible refine gA ?_); apply_assumption -exfalso -symm) | refine gB ?_ | refine gC ?_ | refine gD ?_ | refine gE ?_ | refine gF rfl ?_ | refine gG rfl ?_ | refine gH ?_ | refine gI ?_ | refine gJ ?_ | refine gK ?_ | refine gL ?_ | refine lwp_region hC ⟨[], [], []⟩ (told0 _ _) rfl ⟨⟩ ?_
      (refine lwp_region hC ⟨[], [], [(2, TPMap_i m s l [(0, some 0), (1, some 1), (2, some 3), (3, some 2)])]⟩ (told1 _ (by rw [hP]; exact (calls_cons (TPMap_s _ _ _ _ hm' hs hl hg.p) calls_nil))) rfl ?_ ?_; rotate_left 1)
      · repeat first | refine lwp_seq fun K hK => ?_ | ((with_reducible refine gA ?_); apply_assumption -exfalso -symm) | refine gB ?_ | refine gC ?_ | refine gD ?_ | refine gE ?_ | refine gF rfl ?_ | refine gG rfl ?_ | refine gH ?_ | refine gI ?_ | refine gJ ?_ | refine gK ?_ | refine gL ?_ | refine lwp_region hC ⟨[], [], []⟩ (told0 _ _) rfl ⟨⟩ ?_
        (refine lwp_region hC ⟨[], [], [(1, RevP_i (l.map (turnP m s)) [(0, some 4)])]⟩ (told1 _ (by rw [hP]; exact (calls_cons (RevP_s _ _ (by rw [List.length_map]; exact hl)) calls_nil))) rfl ?_ ?_; rotate_left 1)
        · repeat first | refine lwp_seq fun K hK => ?_ | ((with_reducible refine gA ?_); apply_assumption -exfalso -symm) | refine gB ?_ | refine gC ?_ | refine gD ?_ | refine gE ?_ | refine gF rfl ?_ | refine gG rfl ?_ | refine gH ?_ | refine gI ?_ | refine gJ ?_ | refine gK ?_ | refine gL ?_ | refine lwp_region hC ⟨[], [], []⟩ (told0 _ _) rfl ⟨⟩ ?_ | refine lwp_region hC ⟨[], [], []⟩ (told0 _ _) rfl (by exact sd) ?_
          (refine end_intro (by first | exact .inr rfl | exact .inl rfl) [(3, some 4)] rfl ?_)
          rw [show (l.map (turnP m s)).reverse = turnPL m s l from rfl]
          exact sd
        · exact sd
      · exact sd
  · exact sd

end Go.Proofs.YtoopgdchiljmiaaGreatDoor
