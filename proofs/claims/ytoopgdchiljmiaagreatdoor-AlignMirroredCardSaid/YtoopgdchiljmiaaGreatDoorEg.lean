/- Chapter 5: conflicts, the program's. -/
import Derived.Test.YtoopgdchiljmiaaGreatDoorEf
set_option linter.unusedVariables false
set_option linter.unusedSimpArgs false
namespace Go.Proofs.YtoopgdchiljmiaaGreatDoor
open Go.RowKit Go.Sym

def confE (m s : List Th) (r b : Int) (l : List (Int × Int)) : Int := firstS [checkPairsS m s l, slipS r b]
def confL (m s : List Th) (r b : Int) (l : List (Int × Int)) : List (Int × Int) := if confE m s r b l ≠ 0 then [] else confsS m s r b l l.length
theorem confE_zero {m s : List Th} {r b : Int} {l : List (Int × Int)} (h : confE m s r b l = 0) : Good m s l ∧ slOk r b := by
  unfold confE at h
  rw [firstS_cons, firstS_cons] at h
  exact ⟨good_of h.1, slOk_of h.2.1⟩
theorem two_eq (p : Int × Int) : (!(p.1 == p.1 && p.2 == p.2 && p.1 == p.1 && p.2 == p.2)) = false := by simp
theorem two_ne {p q : Int × Int} (h : q ≠ p) : (!(p.1 == p.1 && p.2 == p.2 && q.1 == p.1 && q.2 == p.2)) = true := by
  by_cases h1 : q.1 = p.1
  · have h2 : q.2 ≠ p.2 := fun h2 => h (Prod.ext h1 h2)
    simp [h2]
  · simp [h1]
def Confs_i (m s : List Th) (r b : Int) (l : List (Int × Int)) (σ : Ren) : Inst := { f := 63, hin := costIn m s l, args := [rdA m s, .sl 2 l.length, slA r b], hout := [(3, .row 165 (confL m s r b l).length 2 (prC (confL m s r b l)))], ret := .tup [.sl 3 (confL m s r b l).length, i64 (confE m s r b l)], σ := σ }
set_option maxRecDepth 20000 in
set_option maxHeartbeats 4000000 in
theorem Confs_s (m s : List Th) (r b : Int) (l : List (Int × Int)) (σ : Ren) (hm' : m.length ≤ 1000000) (hs : s.length ≤ 1000000) (hl : l.length ≤ 1000000) : (Confs_i m s r b l σ).ok Tryz.prog := by
  unfold Confs_i Inst.ok; dsimp only; refine spec_of_body (tys := tys) 3 Tryz.func63 (by kernel_rfl) rfl tys_ok rfl (Nat.le_of_ble_eq_true rfl) (fun _ _ h => (by cases h)) fun F hP hm hC hrd => ?_; conv => whnf
  repeat first | refine lwp_seq fun K hK => ?_ | ((with_reducible refine gA ?_); apply_assumption -exfalso -symm) | refine gB ?_ | refine gC ?_ | refine gD ?_ | refine gE ?_ | refine gF rfl ?_ | refine gG rfl ?_ | refine gH ?_ | refine gI ?_ | refine gJ ?_ | refine gK ?_ | refine gL ?_ | refine lwp_region hC ⟨[], [], []⟩ (told0 _ _) rfl ⟨⟩ ?_ | refine lwp_region hC ⟨[], [], []⟩ (told0 _ _) rfl (by exact sd) ?_
  (refine lwp_drawn hC (by rw [hP]; exact mixed) ⟨[], [], [(2, Pairs_i m s l [(0, some 0), (1, some 1), (2, some 2)]), (4, Slip_i r b), (6, AFirst_i [checkPairsS m s l, slipS r b] [(0, some 5)])]⟩ (told1 _ (by rw [hP]; exact (calls_cons (Pairs_s _ _ _ _ hm' hs hl) (calls_cons (Slip_s _ _) (calls_cons (AFirst_s _ _ (by simp)) calls_nil))))) [0, 0, 3, 0, 15, 31, 63, 127] 4 rfl ?_ ?_; rotate_left 1)
  · repeat first | refine lwp_seq fun K hK => ?_ | ((with_reducible refine gA ?_); apply_assumption -exfalso -symm) | refine gB ?_ | refine gC ?_ | refine gD ?_ | refine gE ?_ | refine gF rfl ?_ | refine gG rfl ?_ | refine gH ?_ | refine gI ?_ | refine gJ ?_ | refine gK ?_ | refine gL ?_ | refine lwp_region hC ⟨[], [], []⟩ (told0 _ _) rfl ⟨⟩ ?_ | refine lwp_region hC ⟨[], [], []⟩ (told0 _ _) rfl (by exact sd) ?_
    (refine lwp_cond hC rfl (by first | exact ⟨⟩ | exact sd) (fun hb => ?_) (fun hb => ?_) <;> (try simp only [decide_eq_true_eq, decide_eq_false_iff_not, Bool.not_eq_true', Bool.not_eq_false', ne_eq, Decidable.not_not] at hb))
    · have hE : confL m s r b l = [] := if_pos hb
      repeat first | refine lwp_seq fun K hK => ?_ | ((with_reducible refine gA ?_); apply_assumption -exfalso -symm) | refine gB ?_ | refine gC ?_ | refine gD ?_ | refine gE ?_ | refine gF rfl ?_ | refine gG rfl ?_ | refine gH ?_ | refine gI ?_ | refine gJ ?_ | refine gK ?_ | refine gL ?_ | refine lwp_region hC ⟨[], [], []⟩ (told0 _ _) rfl ⟨⟩ ?_ | refine lwp_region hC ⟨[], [], []⟩ (told0 _ _) rfl (by exact sd) ?_
      rw [hE]
      (refine end_intro (by first | exact .inr rfl | exact .inl rfl) [(3, none)] rfl ?_)
      exact sd
    · have hz : confE m s r b l = 0 := hb
      have hE : confL m s r b l = confsS m s r b l l.length := by unfold confL; rw [if_neg (by rw [hz]; decide)]
      obtain ⟨h, hr⟩ := confE_zero hz
      clear hb
      have hl64 := h.hl
      have hm64 := h.hm
      have hs64 := h.hs
      repeat first | refine lwp_seq fun K hK => ?_ | ((with_reducible refine gA ?_); apply_assumption -exfalso -symm) | refine gB ?_ | refine gC ?_ | refine gD ?_ | refine gE ?_ | refine gF rfl ?_ | refine gG rfl ?_ | refine gH ?_ | refine gI ?_ | refine gJ ?_ | refine gK ?_ | refine gL ?_ | refine lwp_region hC ⟨[], [], []⟩ (told0 _ _) rfl ⟨⟩ ?_ | refine lwp_region hC ⟨[], [], []⟩ (told0 _ _) rfl (by exact sd) ?_
      refine lwp_loop (fun i : Nat => ⟨[(27, i64 i), (26, i64 l.length), (25, .sl 2 l.length), (1, .sl 2 l.length), (3, .ptr 3 0 0 0), (5, .ptr 4 0 0 0), (9, .sl 5 (confsS m s r b l i).length)], [(5, .row 165 (confsS m s r b l i).length 2 (prC (confsS m s r b l i))), (4, .blk 124 [i64 r, i64 b]), (3, .blk 38 [.sl 0 m.length, .sl 1 s.length]), (0, .ro m.length 2 (thC m)), (1, .ro s.length 2 (thC s)), (2, .ro l.length 2 (prC l))], 6⟩) (fun i => i ≤ l.length) (fun i => l.length - i) 0 ⟨?_, sub_intro hm [(0, some 0), (1, some 1), (2, some 2), (3, some 3), (4, some 4), (5, none)] rfl ?_⟩ ?_
      · exact Nat.zero_le _
      · unfold confsS
        exact sd
      · rintro i hi
        repeat first | refine lwp_seq fun K hK => ?_ | ((with_reducible refine gA ?_); apply_assumption -exfalso -symm) | refine gB ?_ | refine gC ?_ | refine gD ?_ | refine gE ?_ | refine gF rfl ?_ | refine gG rfl ?_ | refine gH ?_ | refine gI ?_ | refine gJ ?_ | refine gK ?_ | refine gL ?_ | refine lwp_region hC ⟨[], [], []⟩ (told0 _ _) rfl ⟨⟩ ?_ | refine lwp_region hC ⟨[], [], []⟩ (told0 _ _) rfl (by exact sd) ?_
        (refine lwp_cond hC rfl (by first | exact ⟨⟩ | exact sd) (fun hb => ?_) (fun hb => ?_) <;> (try simp only [decide_eq_true_eq, decide_eq_false_iff_not, Bool.not_eq_true', Bool.not_eq_false', ne_eq, Decidable.not_not] at hb))
        · have hil : i < l.length := by omega
          have e1 : (i : Int).toNat = i := Int.toNat_natCast i
          repeat first | refine lwp_seq fun K hK => ?_ | ((with_reducible refine gA ?_); apply_assumption -exfalso -symm) | refine gB ?_ | refine gC ?_ | refine gD ?_ | refine gE ?_ | refine gF rfl ?_ | refine gG rfl ?_ | refine gH ?_ | refine gI ?_ | refine gJ ?_ | refine gK ?_ | refine gL ?_ | refine lwp_region hC ⟨[], [], []⟩ (told0 _ _) rfl ⟨⟩ ?_ | refine lwp_region hC ⟨[], [], []⟩ (told0 _ _) rfl (by exact sd) ?_
          rw [e1]
          refine lwp_loop (fun k : Nat => ⟨[(36, i64 k), (35, i64 ((l.length - i : Nat) : Int)), (34, .sl 7 (l.length - i)), (10, i64 i), (11, .ptr 6 0 0 0), (9, .sl 5 (confsS m s r b l i ++ innS m s r b l i (k - 1)).length), (27, i64 i), (26, i64 l.length), (25, .sl 2 l.length), (1, .sl 2 l.length), (3, .ptr 3 0 0 0), (5, .ptr 4 0 0 0)], [(7, .ro (l.length - i) 2 (prC (l.drop i))), (6, .blk 104 [i64 (prAt l i).1, i64 (prAt l i).2]), (5, .row 165 (confsS m s r b l i ++ innS m s r b l i (k - 1)).length 2 (prC (confsS m s r b l i ++ innS m s r b l i (k - 1)))), (4, .blk 124 [i64 r, i64 b]), (3, .blk 38 [.sl 0 m.length, .sl 1 s.length]), (0, .ro m.length 2 (thC m)), (1, .ro s.length 2 (thC s)), (2, .ro l.length 2 (prC l))], 8⟩) (fun k => k ≤ l.length - i) (fun k => l.length - k) 0 ⟨?_, sub_intro hm [(0, some 0), (1, some 1), (2, some 2), (3, some 3), (4, some 4), (5, some 5), (6, some 6), (7, some 8)] rfl ?_⟩ ?_
          · exact Nat.zero_le _
          · have e2 : (prC (l.drop i)).cells = (Cont.gen (l.length - i) 2 fun k => prV (l.getD (i + k) (0, 0))).cells := prC_drop l i
            simp only [innS, List.append_nil, Nat.zero_sub]
            exact sd
          · clear hb
            rintro k hk
            repeat first | refine lwp_seq fun K hK => ?_ | ((with_reducible refine gA ?_); apply_assumption -exfalso -symm) | refine gB ?_ | refine gC ?_ | refine gD ?_ | refine gE ?_ | refine gF rfl ?_ | refine gG rfl ?_ | refine gH ?_ | refine gI ?_ | refine gJ ?_ | refine gK ?_ | refine gL ?_ | refine lwp_region hC ⟨[], [], []⟩ (told0 _ _) rfl ⟨⟩ ?_ | refine lwp_region hC ⟨[], [], []⟩ (told0 _ _) rfl (by exact sd) ?_
            (refine lwp_cond hC rfl (by first | exact ⟨⟩ | exact sd) (fun hb => ?_) (fun hb => ?_) <;> (try simp only [decide_eq_true_eq, decide_eq_false_iff_not, Bool.not_eq_true', Bool.not_eq_false', ne_eq, Decidable.not_not] at hb))
            · have hki : k < l.length - i := by omega
              have e3 : (k : Int).toNat = k := Int.toNat_natCast k
              have e4 := prAt_drop l i k
              unfold prAt at e4
              repeat first | refine lwp_seq fun K hK => ?_ | ((with_reducible refine gA ?_); apply_assumption -exfalso -symm) | refine gB ?_ | refine gC ?_ | refine gD ?_ | refine gE ?_ | refine gF rfl ?_ | refine gG rfl ?_ | refine gH ?_ | refine gI ?_ | refine gJ ?_ | refine gK ?_ | refine gL ?_ | refine lwp_region hC ⟨[], [], []⟩ (told0 _ _) rfl ⟨⟩ ?_ | refine lwp_region hC ⟨[], [], []⟩ (told0 _ _) rfl (by exact sd) ?_
              rw [e3, e4]
              rcases Nat.eq_zero_or_pos k with hk0 | hk0
              · subst hk0
                (refine lwp_region hC ⟨[(5, { b := some false }), (6, { g := some false }), (7, { g := some false }), (8, { g := some false }), (9, { g := some false })], [(4, custTwo)], []⟩ ⟨(fun p hp => by rcases List.mem_cons.1 hp with rfl | hp; rw [hP]; exact custTwo_ok; cases hp), (fun _ h => (by cases h))⟩ rfl ?_ ?_; rotate_left 1)
                · repeat first | refine lwp_seq fun K hK => ?_ | ((with_reducible refine gA ?_); apply_assumption -exfalso -symm) | refine gB ?_ | refine gC ?_ | refine gD ?_ | refine gE ?_ | refine gF rfl ?_ | refine gG rfl ?_ | refine gH ?_ | refine gI ?_ | refine gJ ?_ | refine gK ?_ | refine gL ?_ | refine lwp_region hC ⟨[], [], []⟩ (told0 _ _) rfl ⟨⟩ ?_ | refine lwp_region hC ⟨[], [], []⟩ (told0 _ _) rfl (by exact sd) ?_
                  (refine lwp_cond hC rfl (by first | exact ⟨⟩ | exact sd) (fun hb => ?_) (fun hb => ?_) <;> (try simp only [decide_eq_true_eq, decide_eq_false_iff_not, Bool.not_eq_true', Bool.not_eq_false', ne_eq, Decidable.not_not] at hb))
                  · exact absurd hb (by decide)
                  · repeat first | refine lwp_seq fun K hK => ?_ | ((with_reducible refine gA ?_); apply_assumption -exfalso -symm) | refine gB ?_ | refine gC ?_ | refine gD ?_ | refine gE ?_ | refine gF rfl ?_ | refine gG rfl ?_ | refine gH ?_ | refine gI ?_ | refine gJ ?_ | refine gK ?_ | refine gL ?_ | refine lwp_region hC ⟨[], [], []⟩ (told0 _ _) rfl ⟨⟩ ?_ | refine lwp_region hC ⟨[], [], []⟩ (told0 _ _) rfl (by exact sd) ?_
                    refine gA ⟨0 + 1, ?_, ?_, sub_intro hm [(0, some 0), (1, some 1), (2, some 2), (3, some 3), (4, some 4), (5, some 5), (6, some 6), (7, some 7)] rfl ?_⟩
                    · omega
                    · omega
                    · simp only [Nat.zero_sub, Nat.zero_add, Nat.sub_self]
                      exact sd
                · rw [show l.getD (i + 0) (0, 0) = prAt l i from rfl, two_eq (prAt l i)]
                  exact sd
              · obtain ⟨j, rfl⟩ : ∃ j, k = j + 1 := ⟨k - 1, by omega⟩
                have e5 : i + (j + 1) = i + 1 + j := by omega
                rw [e5]
                have hij : i + 1 + j < l.length := by omega
                have up := h.up i (i + 1 + j) (by omega) hij
                have hp := h.p i hil
                have hq := h.p (i + 1 + j) hij
                have hfew := conf_few (m := m) (s := s) (r := r) (b := b) (i := i) (k := j) hl64 (by omega) (by omega)
                have hI : confsS m s r b l i ++ innS m s r b l i (j + 1 + 1 - 1) = (confsS m s r b l i ++ innS m s r b l i j) ++ if confB m s r b (prAt l i) (prAt l (i + 1 + j)) = true then [((i : Int), ((i + 1 + j : Nat) : Int))] else [] := by rw [Nat.add_sub_cancel]; simp only [innS, List.append_assoc]
                rw [show j + 1 - 1 = j from Nat.add_sub_cancel j 1]
                generalize hA : confsS m s r b l i ++ innS m s r b l i j = A at hfew hI ⊢
                (refine lwp_region hC ⟨[(5, { b := some true })], [(4, custTwo)], [(9, Conf_i m s r b (prAt l i) (prAt l (i + 1 + j)) [(0, some 0), (1, some 1)])]⟩ ⟨(fun p hp => by rcases List.mem_cons.1 hp with rfl | hp; rw [hP]; exact custTwo_ok; cases hp), (by rw [hP]; exact (calls_cons (Conf_s _ _ _ _ _ _ _ ⟨h.hm, h.hs⟩ h.pm h.ps hr hp hq (by omega)) calls_nil))⟩ rfl ?_ ?_; rotate_left 1)
                · repeat first | refine lwp_seq fun K hK => ?_ | ((with_reducible refine gA ?_); apply_assumption -exfalso -symm) | refine gB ?_ | refine gC ?_ | refine gD ?_ | refine gE ?_ | refine gF rfl ?_ | refine gG rfl ?_ | refine gH ?_ | refine gI ?_ | refine gJ ?_ | refine gK ?_ | refine gL ?_ | refine lwp_region hC ⟨[], [], []⟩ (told0 _ _) rfl ⟨⟩ ?_ | refine lwp_region hC ⟨[], [], []⟩ (told0 _ _) rfl (by exact sd) ?_
                  (refine lwp_cond hC rfl (by first | exact ⟨⟩ | exact sd) (fun hb => ?_) (fun hb => ?_) <;> (try simp only [decide_eq_true_eq, decide_eq_false_iff_not, Bool.not_eq_true', Bool.not_eq_false', ne_eq, Decidable.not_not] at hb))
                  · rw [if_pos (show confB m s r b (prAt l i) (prAt l (i + 1 + j)) = true from hb)] at hI
                    repeat first | refine lwp_seq fun K hK => ?_ | ((with_reducible refine gA ?_); apply_assumption -exfalso -symm) | refine gB ?_ | refine gC ?_ | refine gD ?_ | refine gE ?_ | refine gF rfl ?_ | refine gG rfl ?_ | refine gH ?_ | refine gI ?_ | refine gJ ?_ | refine gK ?_ | refine gL ?_ | refine lwp_region hC ⟨[], [], []⟩ (told0 _ _) rfl ⟨⟩ ?_ | refine lwp_region hC ⟨[], [], []⟩ (told0 _ _) rfl (by exact sd) ?_
                    refine gA ⟨j + 1 + 1, ?_, ?_, sub_intro hm [(0, some 0), (1, some 1), (2, some 2), (3, some 3), (4, some 4), (5, some 13), (6, some 6), (7, some 7)] rfl ?_⟩
                    · omega
                    · omega
                    · rw [hI]
                      have e := prC_snoc A ((i : Int), ((i + 1 + j : Nat) : Int))
                      have e7 : (prC (A ++ [((i : Int), ((i + 1 + j : Nat) : Int))])).cells = (catC (prC A) (Cont.exp [.lit (.int .i64 i), .lit (.int .i64 (i + ((j + 1 : Nat) : Int)))])).cells := by
                        rw [catC_cells, e, show (i : Int) + ((j + 1 : Nat) : Int) = ((i + 1 + j : Nat) : Int) by omega]; rfl
                      rw [List.length_append]
                      exact sd
                  · have hb2 : confB m s r b (prAt l i) (prAt l (i + 1 + j)) = false := hb
                    rw [if_neg (by rw [hb2]; decide), List.append_nil] at hI
                    repeat first | refine lwp_seq fun K hK => ?_ | ((with_reducible refine gA ?_); apply_assumption -exfalso -symm) | refine gB ?_ | refine gC ?_ | refine gD ?_ | refine gE ?_ | refine gF rfl ?_ | refine gG rfl ?_ | refine gH ?_ | refine gI ?_ | refine gJ ?_ | refine gK ?_ | refine gL ?_ | refine lwp_region hC ⟨[], [], []⟩ (told0 _ _) rfl ⟨⟩ ?_ | refine lwp_region hC ⟨[], [], []⟩ (told0 _ _) rfl (by exact sd) ?_
                    refine gA ⟨j + 1 + 1, ?_, ?_, sub_intro hm [(0, some 0), (1, some 1), (2, some 2), (3, some 3), (4, some 4), (5, some 5), (6, some 6), (7, some 7)] rfl ?_⟩
                    · omega
                    · omega
                    · rw [hI]
                      exact sd
                · rw [two_ne (p := prAt l i) (q := l.getD (i + 1 + j) (0, 0)) (fun e => by rw [show prAt l (i + 1 + j) = prAt l i from e] at up; omega)]
                  exact sd
            · have hki : k = l.length - i := by omega
              have e6 : confsS m s r b l (i + 1) = confsS m s r b l i ++ innS m s r b l i (k - 1) := by rw [confsS, show l.length - 1 - i = k - 1 by omega]
              repeat first | refine lwp_seq fun K hK => ?_ | ((with_reducible refine gA ?_); apply_assumption -exfalso -symm) | refine gB ?_ | refine gC ?_ | refine gD ?_ | refine gE ?_ | refine gF rfl ?_ | refine gG rfl ?_ | refine gH ?_ | refine gI ?_ | refine gJ ?_ | refine gK ?_ | refine gL ?_ | refine lwp_region hC ⟨[], [], []⟩ (told0 _ _) rfl ⟨⟩ ?_ | refine lwp_region hC ⟨[], [], []⟩ (told0 _ _) rfl (by exact sd) ?_
              refine gA ⟨i + 1, ?_, ?_, sub_intro hm [(0, some 0), (1, some 1), (2, some 2), (3, some 3), (4, some 4), (5, some 5)] rfl ?_⟩
              · omega
              · omega
              · rw [e6]
                exact sd
        · have hE' : confL m s r b l = confsS m s r b l i := by rw [hE, show l.length = i by omega]
          repeat first | refine lwp_seq fun K hK => ?_ | ((with_reducible refine gA ?_); apply_assumption -exfalso -symm) | refine gB ?_ | refine gC ?_ | refine gD ?_ | refine gE ?_ | refine gF rfl ?_ | refine gG rfl ?_ | refine gH ?_ | refine gI ?_ | refine gJ ?_ | refine gK ?_ | refine gL ?_ | refine lwp_region hC ⟨[], [], []⟩ (told0 _ _) rfl ⟨⟩ ?_ | refine lwp_region hC ⟨[], [], []⟩ (told0 _ _) rfl (by exact sd) ?_
          (refine end_intro (by first | exact .inr rfl | exact .inl rfl) [(3, some 5)] rfl ?_)
          rw [hE', hz]
          exact sd
  · exact sd

end Go.Proofs.YtoopgdchiljmiaaGreatDoor
