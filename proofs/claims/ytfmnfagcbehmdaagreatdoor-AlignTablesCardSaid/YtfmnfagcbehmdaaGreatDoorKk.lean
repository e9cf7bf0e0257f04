/- AlignTables: the law gives true. -/
import Derived.Test.YtfmnfagcbehmdaaGreatDoorKj
import Derived.Test.YtfmnfagcbehmdaaGreatDoorDy
set_option linter.unusedVariables false
set_option linter.unusedSimpArgs false
namespace Go.Proofs.YtfmnfagcbehmdaaGreatDoor
open Go.RowKit Go.Sym

def LawT_i (m s : List Th) (c : Cs) (n : Nat) (R : Nat → List Int) : Inst := { f := 4, gl := lawG, hin := [(0, pwC), (1, fmC), (2, .ro m.length 2 (thC m)), (3, .ro s.length 2 (thC s)), (4, roF n R), (5, roT 4 n R)], args := [.agg [.sl 2 m.length, .sl 3 s.length], csA c, .sl 5 n], hout := [], ret := bl true, σ := [] }
theorem tnum_bad {b w : Int} (h : b ≠ 0) : numS 0 b b w = true := by
  unfold numS
  simp [h]
theorem tnum_good (w : Int) : numS w 0 0 w = true := by
  unfold numS
  simp
theorem catL_small {n : Nat} {R : Nat → List Int} (h : ∀ e, e < n → (R e).length ≤ 9) : ∀ k, k ≤ n → (catL R k).length ≤ k * 9
  | 0, _ => by simp [catL]
  | k + 1, hk => by
    have := catL_small h k (by omega)
    have := h k (by omega)
    simp only [catL, List.length_append]
    omega
theorem short_lens {m s : List Th} (hS : shortS m s = true) : m.length ≤ 1000000 ∧ s.length ≤ 1000000 := by
  unfold shortS at hS
  simp only [Bool.and_eq_true] at hS
  have h3 := hS.2.2
  unfold lenS at h3
  by_cases q1 : (m.length : Int) ≤ 8 <;> by_cases q2 : (m.length : Int) = 65 <;> by_cases q3 : (s.length : Int) ≤ 8 <;> by_cases q4 : (s.length : Int) = 65 <;> simp [q1, q2, q3, q4] at h3 <;> omega
theorem short_kinds {m s : List Th} (hS : shortS m s = true) : kindsOk m ∧ kindsOk s := by
  unfold shortS at hS
  simp only [Bool.and_eq_true] at hS
  exact ⟨kinds_of hS.1, kinds_of hS.2.1⟩
theorem same_tab {m s : List Th} {c : Cs} (hf : AFit m s c) (h : aligE m s c = 0) : sameTS (tabN m s c) (tabF m s c) s.length (refF m s c s.length) = true := by
  have e : tabN m s c = s.length := if_neg (by rw [h]; decide)
  unfold sameTS
  rw [e, all_yes fun i hi => decide_eq_true (tab_ref hf hi)]
  simp
theorem same_nil (A B : Nat → List Int) {m s : List Th} {c : Cs} (h : aligE m s c ≠ 0) : sameTS (tabN m s c) A 0 B = true := by
  have e : tabN m s c = 0 := if_pos h
  unfold sameTS
  rw [e]
  rfl
set_option maxRecDepth 20000 in
set_option maxHeartbeats 8000000 in
theorem LawT_s (m s : List Th) (c : Cs) (n : Nat) (R : Nat → List Int) (hmm : m.length ≤ 9223372036854775807) (hss : s.length ≤ 9223372036854775807) (hnn : n ≤ 9223372036854775807) : (LawT_i m s c n R).ok Tryz.prog := by
  unfold LawT_i Inst.ok; dsimp only; refine spec_of_body (tys := tys) 6 Tryz.func4 (by kernel_rfl) rfl tys_ok rfl (Nat.le_of_ble_eq_true rfl) (fun g i h => ?_) fun F hP hm hC hrd => ?_
  · simp only [List.mem_cons, List.not_mem_nil, or_false, Prod.mk.injEq] at h
    omega
  conv => whnf
  repeat first | refine lwp_seq fun K hK => ?_ | ((with_reducible refine gA ?_); apply_assumption -exfalso -symm) | refine gB ?_ | refine gC ?_ | refine gD ?_ | refine gE ?_ | refine gF rfl ?_ | refine gG rfl ?_ | refine gH ?_ | refine gI ?_ | refine gJ ?_ | refine gK ?_ | refine gL ?_ | refine gM hC rfl ⟨⟩ ?_ | refine gM hC rfl (by exact sd) ?_
  by_cases hS : shortS m s = true
  · by_cases hQ : shTS n R = true
    · obtain ⟨km, ks⟩ := short_kinds hS
      obtain ⟨hm', hs⟩ := short_lens hS
      have hq2 : (∀ e, e < n → (R e).length ≤ 9) ∧ n ≤ 9 := by
        unfold shTS at hQ
        rw [Bool.and_eq_true, all_iff] at hQ
        exact ⟨fun e he => of_decide_eq_true (hQ.1 e he), of_decide_eq_true hQ.2⟩
      obtain ⟨hR9, hn9⟩ := hq2
      have hR6 : ∀ e, e < n → (R e).length ≤ 1000000 := fun e he => by have := hR9 e he; omega
      have hcat : aligE m s c = 0 → ctS m s n R ≠ 2 → (catL R n).length ≤ 200 := fun _ _ => by have := catL_small hR9 n (Nat.le_refl _); omega
      have hTn : tabN m s c ≤ 1000000 := by unfold tabN; split <;> omega
      have hTl : ∀ e, e < tabN m s c → (tabF m s c e).length ≤ 1000000 := fun e _ => by rw [show (tabF m s c e).length = m.length from wrF_len _ _ _ _ _]; exact hm'
      have H6 := Lib.hid hR6
      have H9 := Lib.hid hR9
      clear hR6 hR9
      (refine lwp_region hC ⟨[(7, { b := some false })], [], [(0, Awake_i), (4, Short_i m s [(0, some 2), (1, some 3)]), (9, ShT_i n R [(0, some 4), (1, some 5)])]⟩ (told1 _ (by rw [hP]; exact (calls_cons (Awake_s) (calls_cons (Short_s _ _ _ hmm hss) (calls_cons (ShT_s _ _ _ hnn) calls_nil))))) rfl ?_ ?_; rotate_left 1)
      · rw [hS, hQ]
        repeat first | refine lwp_seq fun K hK => ?_ | ((with_reducible refine gA ?_); apply_assumption -exfalso -symm) | refine gB ?_ | refine gC ?_ | refine gD ?_ | refine gE ?_ | refine gF rfl ?_ | refine gG rfl ?_ | refine gH ?_ | refine gI ?_ | refine gJ ?_ | refine gK ?_ | refine gL ?_ | refine gM hC rfl ⟨⟩ ?_ | refine gM hC rfl (by exact sd) ?_
        (refine lwp_cond hC rfl (by first | exact ⟨⟩ | exact sd) (fun hb => ?_) (fun hb => ?_) <;> (try simp only [decide_eq_true_eq, decide_eq_false_iff_not, Bool.not_eq_true', Bool.not_eq_false', ne_eq, Decidable.not_not] at hb))
        · exact absurd hb (by decide)
        · repeat first | refine lwp_seq fun K hK => ?_ | ((with_reducible refine gA ?_); apply_assumption -exfalso -symm) | refine gB ?_ | refine gC ?_ | refine gD ?_ | refine gE ?_ | refine gF rfl ?_ | refine gG rfl ?_ | refine gH ?_ | refine gI ?_ | refine gJ ?_ | refine gK ?_ | refine gL ?_ | refine gM hC rfl ⟨⟩ ?_ | refine gM hC rfl (by exact sd) ?_
          (refine lwp_drawn hC (by rw [hP]; exact mixed) ⟨[], [], [(1, Own_i m s [(0, some 2), (1, some 3)]), (3, Table_i m s c [(0, some 8), (1, some 9)])]⟩ (told1 _ (by rw [hP]; exact (calls_cons (Own_s _ _ _ hm' hs) (calls_cons (Table_s _ _ _ _ hm' hs) calls_nil)))) [0, 1, 0, 7, 15, 31, 31, 63, 255] 8 rfl ?_ ?_; rotate_left 1)
          · repeat first | refine lwp_seq fun K hK => ?_ | ((with_reducible refine gA ?_); apply_assumption -exfalso -symm) | refine gB ?_ | refine gC ?_ | refine gD ?_ | refine gE ?_ | refine gF rfl ?_ | refine gG rfl ?_ | refine gH ?_ | refine gI ?_ | refine gJ ?_ | refine gK ?_ | refine gL ?_ | refine gM hC rfl ⟨⟩ ?_ | refine gM hC rfl (by exact sd) ?_
            (refine lwp_drawn hC (by rw [hP]; exact mixed) ⟨[], [], [(1, Own_i m s [(0, some 2), (1, some 3)]), (4, LTab_i n R [(0, some 4), (1, some 5)]), (5, CheckT_i m s c n R [(0, some 12), (1, some 13), (2, some 15), (3, some 14)])]⟩ (told1 _ (by rw [hP]; exact (calls_cons (Own_s _ _ _ hm' hs) (calls_cons (LTab_s _ _ _ (by omega) H6.out) (calls_cons (CheckT_s _ _ _ _ _ _ hm' hs (by omega) hcat) calls_nil))))) [0, 1, 0, 0, 11, 31, 63, 127, 127, 255, 1023] 10 rfl ?_ ?_; rotate_left 1)
            · repeat first | refine lwp_seq fun K hK => ?_ | ((with_reducible refine gA ?_); apply_assumption -exfalso -symm) | refine gB ?_ | refine gC ?_ | refine gD ?_ | refine gE ?_ | refine gF rfl ?_ | refine gG rfl ?_ | refine gH ?_ | refine gI ?_ | refine gJ ?_ | refine gK ?_ | refine gL ?_ | refine gM hC rfl ⟨⟩ ?_ | refine gM hC rfl (by exact sd) ?_
              (refine lwp_drawn hC (by rw [hP]; exact mixed) ⟨[], [], [(1, RRide_i m s [(0, some 2), (1, some 3)]), (3, RCosts_i c.missed c.unseen c.stretch), (5, First_i [rideS m s, costsS c.missed c.unseen c.stretch] [(0, some 16)])]⟩ (told1 _ (by rw [hP]; exact (calls_cons (RRide_s _ _ _ hm' hs km ks) (calls_cons (RCosts_s _ _ _) (calls_cons (First_s _ _ (by simp)) calls_nil))))) [0, 1, 0, 7, 15, 31, 63] 3 rfl ?_ ?_; rotate_left 1)
              · repeat first | refine lwp_seq fun K hK => ?_ | ((with_reducible refine gA ?_); apply_assumption -exfalso -symm) | refine gB ?_ | refine gC ?_ | refine gD ?_ | refine gE ?_ | refine gF rfl ?_ | refine gG rfl ?_ | refine gH ?_ | refine gI ?_ | refine gJ ?_ | refine gK ?_ | refine gL ?_ | refine gM hC rfl ⟨⟩ ?_ | refine gM hC rfl (by exact sd) ?_
                clear hb
                (refine lwp_cond hC rfl (by first | exact ⟨⟩ | exact sd) (fun hb => ?_) (fun hb => ?_) <;> (try simp only [decide_eq_true_eq, decide_eq_false_iff_not, Bool.not_eq_true', Bool.not_eq_false', ne_eq, Decidable.not_not] at hb))
                · have hE : aligE m s c = 0 := hb
                  have hE2 : firstS [rideS m s, costsS c.missed c.unseen c.stretch] = 0 := hb
                  have hf := afit_of hE
                  have hct : ctE m s c n R = if ctS m s n R ≠ 0 then ctS m s n R else if provesS m s c n R = false then 19 else 0 := if_neg (by rw [hE]; decide)
                  have hst := same_tab hf hE
                  have HCT := Lib.hid hct
                  clear hb hct
                  repeat first | refine lwp_seq fun K hK => ?_ | ((with_reducible refine gA ?_); apply_assumption -exfalso -symm) | refine gB ?_ | refine gC ?_ | refine gD ?_ | refine gE ?_ | refine gF rfl ?_ | refine gG rfl ?_ | refine gH ?_ | refine gI ?_ | refine gJ ?_ | refine gK ?_ | refine gL ?_ | refine gM hC rfl ⟨⟩ ?_ | refine gM hC rfl (by exact sd) ?_
                  (refine lwp_drawn hC (by rw [hP]; exact mixed) ⟨[], [], [(2, RTable_i m s c [(0, some 2), (1, some 3)]), (5, RShape_i m s n R [(0, some 2), (1, some 3), (2, some 4), (3, some 5)])]⟩ (told1 _ (by rw [hP]; exact (calls_cons (RTable_s _ _ _ _ hf.c hf.l hf.pm hf.ps) (calls_cons (RShape_s _ _ _ _ _ hm' hs (by omega) H6.out) calls_nil)))) [0, 0, 3, 0, 0, 31, 63, 127] 5 rfl ?_ ?_; rotate_left 1)
                  · repeat first | refine lwp_seq fun K hK => ?_ | ((with_reducible refine gA ?_); apply_assumption -exfalso -symm) | refine gB ?_ | refine gC ?_ | refine gD ?_ | refine gE ?_ | refine gF rfl ?_ | refine gG rfl ?_ | refine gH ?_ | refine gI ?_ | refine gJ ?_ | refine gK ?_ | refine gL ?_ | refine gM hC rfl ⟨⟩ ?_ | refine gM hC rfl (by exact sd) ?_
                    (refine lwp_cond hC rfl (by first | exact ⟨⟩ | exact sd) (fun hb => ?_) (fun hb => ?_) <;> (try simp only [decide_eq_true_eq, decide_eq_false_iff_not, Bool.not_eq_true', Bool.not_eq_false', ne_eq, Decidable.not_not] at hb))
                    · have hz : ctS m s n R = 0 := hb
                      have ht := tabOk_of hz
                      have hct2 : ctE m s c n R = if provesS m s c n R = false then 19 else 0 := by rw [HCT.out, if_neg (by rw [hz]; decide)]
                      have HT := Lib.hid ht
                      clear hb ht
                      repeat first | refine lwp_seq fun K hK => ?_ | ((with_reducible refine gA ?_); apply_assumption -exfalso -symm) | refine gB ?_ | refine gC ?_ | refine gD ?_ | refine gE ?_ | refine gF rfl ?_ | refine gG rfl ?_ | refine gH ?_ | refine gI ?_ | refine gJ ?_ | refine gK ?_ | refine gL ?_ | refine gM hC rfl ⟨⟩ ?_ | refine gM hC rfl (by exact sd) ?_
                      (refine lwp_region hC ⟨[], [], [(3, RProves_i m s c n R [(0, some 2), (1, some 3), (2, some 4), (3, some 5)]), (5, When_i (!(provesS m s c n R)) 19)]⟩ (told1 _ (by rw [hP]; exact (calls_cons (RProves_s _ _ _ _ _ _ hf HT.out) (calls_cons (When_s _ _) calls_nil)))) rfl ?_ ?_; rotate_left 1)
                      · cases hp : provesS m s c n R with
                        | true =>
                          have hce : ctE m s c n R = 0 := by rw [hct2, hp]; rfl
                          have hcn : ctN m s c n R = rbI s c R n := by unfold ctN; rw [hce, if_neg (by decide), bound_eq hf HT.out hp]
                          repeat first | refine lwp_seq fun K hK => ?_ | ((with_reducible refine gA ?_); apply_assumption -exfalso -symm) | refine gB ?_ | refine gC ?_ | refine gD ?_ | refine gE ?_ | refine gF rfl ?_ | refine gG rfl ?_ | refine gH ?_ | refine gI ?_ | refine gJ ?_ | refine gK ?_ | refine gL ?_ | refine gM hC rfl ⟨⟩ ?_ | refine gM hC rfl (by exact sd) ?_
                          (refine lwp_cond hC rfl (by first | exact ⟨⟩ | exact sd) (fun hb => ?_) (fun hb => ?_) <;> (try simp only [decide_eq_true_eq, decide_eq_false_iff_not, Bool.not_eq_true', Bool.not_eq_false', ne_eq, Decidable.not_not] at hb))
                          · clear hb
                            repeat first | refine lwp_seq fun K hK => ?_ | ((with_reducible refine gA ?_); apply_assumption -exfalso -symm) | refine gB ?_ | refine gC ?_ | refine gD ?_ | refine gE ?_ | refine gF rfl ?_ | refine gG rfl ?_ | refine gH ?_ | refine gI ?_ | refine gJ ?_ | refine gK ?_ | refine gL ?_ | refine gM hC rfl ⟨⟩ ?_ | refine gM hC rfl (by exact sd) ?_
                            (refine lwp_region hC ⟨[], [], [(3, RBound_i m s c n R [(0, some 2), (1, some 3), (2, some 4), (3, some 5)])]⟩ (told1 _ (by rw [hP]; exact (calls_cons (RBound_s _ _ _ _ _ _ hf.c hf.l HT.out) calls_nil))) rfl ?_ ?_; rotate_left 1)
                            · repeat first | refine lwp_seq fun K hK => ?_ | ((with_reducible refine gA ?_); apply_assumption -exfalso -symm) | refine gB ?_ | refine gC ?_ | refine gD ?_ | refine gE ?_ | refine gF rfl ?_ | refine gG rfl ?_ | refine gH ?_ | refine gI ?_ | refine gJ ?_ | refine gK ?_ | refine gL ?_ | refine gM hC rfl ⟨⟩ ?_ | refine gM hC rfl (by exact sd) ?_
                              (refine lwp_region hC ⟨[(3, { b := some true }), (8, { b := some true })], [], [(2, SameT_i (tabN m s c) (tabF m s c) s.length (refF m s c s.length) [(0, some 11), (1, some 10), (2, some 18), (3, some 17)]), (13, Num_i (ctN m s c n R) (ctE m s c n R) (whenS (!true) 19) (rbI s c R n))]⟩ (told1 _ (by rw [hP]; exact (calls_cons (SameT_s _ _ _ _ _ hTn hTl) (calls_cons (Num_s _ _ _ _) calls_nil)))) rfl ?_ ?_; rotate_left 1)
                              · repeat first | refine lwp_seq fun K hK => ?_ | ((with_reducible refine gA ?_); apply_assumption -exfalso -symm) | refine gB ?_ | refine gC ?_ | refine gD ?_ | refine gE ?_ | refine gF rfl ?_ | refine gG rfl ?_ | refine gH ?_ | refine gI ?_ | refine gJ ?_ | refine gK ?_ | refine gL ?_ | refine gM hC rfl ⟨⟩ ?_ | refine gM hC rfl (by exact sd) ?_
                                (refine end_intro (by first | exact .inr rfl | exact .inl rfl) [] rfl ?_)
                                refine ⟨?_, trivial⟩
                                show true = numS (ctN m s c n R) (ctE m s c n R) (whenS (!true) 19) (rbI s c R n)
                                rw [hcn, hce, show whenS (!true) 19 = 0 from rfl, tnum_good]
                              · exact sd
                            · exact sd
                          · exact absurd rfl hb
                        | false =>
                          have hce : ctE m s c n R = 19 := by rw [hct2, hp]; rfl
                          have hcn : ctN m s c n R = 0 := by unfold ctN; rw [hce, if_pos (by decide)]
                          repeat first | refine lwp_seq fun K hK => ?_ | ((with_reducible refine gA ?_); apply_assumption -exfalso -symm) | refine gB ?_ | refine gC ?_ | refine gD ?_ | refine gE ?_ | refine gF rfl ?_ | refine gG rfl ?_ | refine gH ?_ | refine gI ?_ | refine gJ ?_ | refine gK ?_ | refine gL ?_ | refine gM hC rfl ⟨⟩ ?_ | refine gM hC rfl (by exact sd) ?_
                          (refine lwp_cond hC rfl (by first | exact ⟨⟩ | exact sd) (fun hb => ?_) (fun hb => ?_) <;> (try simp only [decide_eq_true_eq, decide_eq_false_iff_not, Bool.not_eq_true', Bool.not_eq_false', ne_eq, Decidable.not_not] at hb))
                          · exact absurd hb (by decide)
                          · clear hb
                            repeat first | refine lwp_seq fun K hK => ?_ | ((with_reducible refine gA ?_); apply_assumption -exfalso -symm) | refine gB ?_ | refine gC ?_ | refine gD ?_ | refine gE ?_ | refine gF rfl ?_ | refine gG rfl ?_ | refine gH ?_ | refine gI ?_ | refine gJ ?_ | refine gK ?_ | refine gL ?_ | refine gM hC rfl ⟨⟩ ?_ | refine gM hC rfl (by exact sd) ?_
                            (refine lwp_region hC ⟨[(3, { b := some true }), (8, { b := some true })], [], [(2, SameT_i (tabN m s c) (tabF m s c) s.length (refF m s c s.length) [(0, some 11), (1, some 10), (2, some 18), (3, some 17)]), (13, Num_i (ctN m s c n R) (ctE m s c n R) (whenS (!false) 19) 0)]⟩ (told1 _ (by rw [hP]; exact (calls_cons (SameT_s _ _ _ _ _ hTn hTl) (calls_cons (Num_s _ _ _ _) calls_nil)))) rfl ?_ ?_; rotate_left 1)
                            · repeat first | refine lwp_seq fun K hK => ?_ | ((with_reducible refine gA ?_); apply_assumption -exfalso -symm) | refine gB ?_ | refine gC ?_ | refine gD ?_ | refine gE ?_ | refine gF rfl ?_ | refine gG rfl ?_ | refine gH ?_ | refine gI ?_ | refine gJ ?_ | refine gK ?_ | refine gL ?_ | refine gM hC rfl ⟨⟩ ?_ | refine gM hC rfl (by exact sd) ?_
                              (refine end_intro (by first | exact .inr rfl | exact .inl rfl) [] rfl ?_)
                              refine ⟨?_, trivial⟩
                              show true = numS (ctN m s c n R) (ctE m s c n R) (whenS (!false) 19) 0
                              rw [hcn, hce, show whenS (!false) 19 = 19 from rfl, tnum_bad (by decide)]
                            · exact sd
                      · exact sd
                    · have hz : ctS m s n R ≠ 0 := hb
                      have hce : ctE m s c n R = ctS m s n R := by rw [HCT.out, if_pos hz]
                      have hcn : ctN m s c n R = 0 := by unfold ctN; rw [hce, if_pos hz]
                      repeat first | refine lwp_seq fun K hK => ?_ | ((with_reducible refine gA ?_); apply_assumption -exfalso -symm) | refine gB ?_ | refine gC ?_ | refine gD ?_ | refine gE ?_ | refine gF rfl ?_ | refine gG rfl ?_ | refine gH ?_ | refine gI ?_ | refine gJ ?_ | refine gK ?_ | refine gL ?_ | refine gM hC rfl ⟨⟩ ?_ | refine gM hC rfl (by exact sd) ?_
                      (refine lwp_cond hC rfl (by first | exact ⟨⟩ | exact sd) (fun hb => ?_) (fun hb => ?_) <;> (try simp only [decide_eq_true_eq, decide_eq_false_iff_not, Bool.not_eq_true', Bool.not_eq_false', ne_eq, Decidable.not_not] at hb))
                      · exact absurd (by assumption) hz
                      · clear hb
                        repeat first | refine lwp_seq fun K hK => ?_ | ((with_reducible refine gA ?_); apply_assumption -exfalso -symm) | refine gB ?_ | refine gC ?_ | refine gD ?_ | refine gE ?_ | refine gF rfl ?_ | refine gG rfl ?_ | refine gH ?_ | refine gI ?_ | refine gJ ?_ | refine gK ?_ | refine gL ?_ | refine gM hC rfl ⟨⟩ ?_ | refine gM hC rfl (by exact sd) ?_
                        (refine lwp_region hC ⟨[(3, { b := some true }), (8, { b := some true })], [], [(2, SameT_i (tabN m s c) (tabF m s c) s.length (refF m s c s.length) [(0, some 11), (1, some 10), (2, some 18), (3, some 17)]), (13, Num_i (ctN m s c n R) (ctE m s c n R) (ctS m s n R) 0)]⟩ (told1 _ (by rw [hP]; exact (calls_cons (SameT_s _ _ _ _ _ hTn hTl) (calls_cons (Num_s _ _ _ _) calls_nil)))) rfl ?_ ?_; rotate_left 1)
                        · repeat first | refine lwp_seq fun K hK => ?_ | ((with_reducible refine gA ?_); apply_assumption -exfalso -symm) | refine gB ?_ | refine gC ?_ | refine gD ?_ | refine gE ?_ | refine gF rfl ?_ | refine gG rfl ?_ | refine gH ?_ | refine gI ?_ | refine gJ ?_ | refine gK ?_ | refine gL ?_ | refine gM hC rfl ⟨⟩ ?_ | refine gM hC rfl (by exact sd) ?_
                          (refine end_intro (by first | exact .inr rfl | exact .inl rfl) [] rfl ?_)
                          refine ⟨?_, trivial⟩
                          show true = numS (ctN m s c n R) (ctE m s c n R) (ctS m s n R) 0
                          rw [hcn, hce, tnum_bad hz]
                        · exact sd
                  · exact sd
                · have hE : aligE m s c ≠ 0 := hb
                  have hE2 : firstS [rideS m s, costsS c.missed c.unseen c.stretch] ≠ 0 := hb
                  have hEE : aligE m s c = firstS [rideS m s, costsS c.missed c.unseen c.stretch] := rfl
                  have hce : ctE m s c n R = aligE m s c := if_pos hE
                  have hcn : ctN m s c n R = 0 := by unfold ctN; rw [hce, if_pos hE]
                  have hst := same_nil (tabF m s c) (tabF m s c) hE
                  have hT0 : tabN m s c = 0 := if_pos hE
                  clear hb
                  repeat first | refine lwp_seq fun K hK => ?_ | ((with_reducible refine gA ?_); apply_assumption -exfalso -symm) | refine gB ?_ | refine gC ?_ | refine gD ?_ | refine gE ?_ | refine gF rfl ?_ | refine gG rfl ?_ | refine gH ?_ | refine gI ?_ | refine gJ ?_ | refine gK ?_ | refine gL ?_ | refine gM hC rfl ⟨⟩ ?_ | refine gM hC rfl (by exact sd) ?_
                  (refine lwp_cond hC rfl (by first | exact ⟨⟩ | exact sd) (fun hb => ?_) (fun hb => ?_) <;> (try simp only [decide_eq_true_eq, decide_eq_false_iff_not, Bool.not_eq_true', Bool.not_eq_false', ne_eq, Decidable.not_not] at hb))
                  · exact absurd hb hE2
                  · clear hb
                    repeat first | refine lwp_seq fun K hK => ?_ | ((with_reducible refine gA ?_); apply_assumption -exfalso -symm) | refine gB ?_ | refine gC ?_ | refine gD ?_ | refine gE ?_ | refine gF rfl ?_ | refine gG rfl ?_ | refine gH ?_ | refine gI ?_ | refine gJ ?_ | refine gK ?_ | refine gL ?_ | refine gM hC rfl ⟨⟩ ?_ | refine gM hC rfl (by exact sd) ?_
                    (refine lwp_cond hC rfl (by first | exact ⟨⟩ | exact sd) (fun hb => ?_) (fun hb => ?_) <;> (try simp only [decide_eq_true_eq, decide_eq_false_iff_not, Bool.not_eq_true', Bool.not_eq_false', ne_eq, Decidable.not_not] at hb))
                    · exact absurd hb hE2
                    · clear hb
                      repeat first | refine lwp_seq fun K hK => ?_ | ((with_reducible refine gA ?_); apply_assumption -exfalso -symm) | refine gB ?_ | refine gC ?_ | refine gD ?_ | refine gE ?_ | refine gF rfl ?_ | refine gG rfl ?_ | refine gH ?_ | refine gI ?_ | refine gJ ?_ | refine gK ?_ | refine gL ?_ | refine gM hC rfl ⟨⟩ ?_ | refine gM hC rfl (by exact sd) ?_
                      (refine lwp_region hC ⟨[(3, { b := some true }), (8, { b := some true })], [], [(2, SameT_i (tabN m s c) (tabF m s c) 0 (tabF m s c) [(0, some 11), (1, some 10), (2, some 11), (3, none)]), (13, Num_i (ctN m s c n R) (ctE m s c n R) (firstS [rideS m s, costsS c.missed c.unseen c.stretch]) 0)]⟩ (told1 _ (by rw [hP]; exact (calls_cons (SameT_s _ _ _ _ _ hTn hTl) (calls_cons (Num_s _ _ _ _) calls_nil)))) rfl ?_ ?_; rotate_left 1)
                      · repeat first | refine lwp_seq fun K hK => ?_ | ((with_reducible refine gA ?_); apply_assumption -exfalso -symm) | refine gB ?_ | refine gC ?_ | refine gD ?_ | refine gE ?_ | refine gF rfl ?_ | refine gG rfl ?_ | refine gH ?_ | refine gI ?_ | refine gJ ?_ | refine gK ?_ | refine gL ?_ | refine gM hC rfl ⟨⟩ ?_ | refine gM hC rfl (by exact sd) ?_
                        (refine end_intro (by first | exact .inr rfl | exact .inl rfl) [] rfl ?_)
                        refine ⟨?_, trivial⟩
                        show true = numS (ctN m s c n R) (ctE m s c n R) (aligE m s c) 0
                        rw [hcn, hce, tnum_bad hE]
                      · exact sd
              · exact sd
            · exact sd
          · exact sd
      · rw [hS]
        exact sd
    · have hQ' : shTS n R = false := by simpa using hQ
      (refine lwp_region hC ⟨[(7, { b := some false })], [], [(0, Awake_i), (4, Short_i m s [(0, some 2), (1, some 3)]), (9, ShT_i n R [(0, some 4), (1, some 5)])]⟩ (told1 _ (by rw [hP]; exact (calls_cons (Awake_s) (calls_cons (Short_s _ _ _ hmm hss) (calls_cons (ShT_s _ _ _ hnn) calls_nil))))) rfl ?_ ?_; rotate_left 1)
      · rw [hS, hQ']
        repeat first | refine lwp_seq fun K hK => ?_ | ((with_reducible refine gA ?_); apply_assumption -exfalso -symm) | refine gB ?_ | refine gC ?_ | refine gD ?_ | refine gE ?_ | refine gF rfl ?_ | refine gG rfl ?_ | refine gH ?_ | refine gI ?_ | refine gJ ?_ | refine gK ?_ | refine gL ?_ | refine gM hC rfl ⟨⟩ ?_ | refine gM hC rfl (by exact sd) ?_
        (refine lwp_cond hC rfl (by first | exact ⟨⟩ | exact sd) (fun hb => ?_) (fun hb => ?_) <;> (try simp only [decide_eq_true_eq, decide_eq_false_iff_not, Bool.not_eq_true', Bool.not_eq_false', ne_eq, Decidable.not_not] at hb))
        · repeat first | refine lwp_seq fun K hK => ?_ | ((with_reducible refine gA ?_); apply_assumption -exfalso -symm) | refine gB ?_ | refine gC ?_ | refine gD ?_ | refine gE ?_ | refine gF rfl ?_ | refine gG rfl ?_ | refine gH ?_ | refine gI ?_ | refine gJ ?_ | refine gK ?_ | refine gL ?_ | refine gM hC rfl ⟨⟩ ?_ | refine gM hC rfl (by exact sd) ?_
          (refine lwp_region hC ⟨[], [], [(0, Awake_i)]⟩ (told1 _ (by rw [hP]; exact (calls_cons (Awake_s) calls_nil))) rfl ?_ ?_; rotate_left 1)
          · repeat first | refine lwp_seq fun K hK => ?_ | ((with_reducible refine gA ?_); apply_assumption -exfalso -symm) | refine gB ?_ | refine gC ?_ | refine gD ?_ | refine gE ?_ | refine gF rfl ?_ | refine gG rfl ?_ | refine gH ?_ | refine gI ?_ | refine gJ ?_ | refine gK ?_ | refine gL ?_ | refine gM hC rfl ⟨⟩ ?_ | refine gM hC rfl (by exact sd) ?_
            (refine end_intro (by first | exact .inr rfl | exact .inl rfl) [] rfl ?_)
            exact ⟨rfl, trivial⟩
          · exact sd
        · exact absurd hb (by decide)
      · rw [hS]
        exact sd
  · have hS' : shortS m s = false := by simpa using hS
    (refine lwp_region hC ⟨[(7, { b := some true }), (8, { g := some false }), (9, { g := some false }), (10, { g := some false })], [], [(0, Awake_i), (4, Short_i m s [(0, some 2), (1, some 3)])]⟩ (told1 _ (by rw [hP]; exact (calls_cons (Awake_s) (calls_cons (Short_s _ _ _ hmm hss) calls_nil)))) rfl ?_ ?_; rotate_left 1)
    · rw [hS']
      repeat first | refine lwp_seq fun K hK => ?_ | ((with_reducible refine gA ?_); apply_assumption -exfalso -symm) | refine gB ?_ | refine gC ?_ | refine gD ?_ | refine gE ?_ | refine gF rfl ?_ | refine gG rfl ?_ | refine gH ?_ | refine gI ?_ | refine gJ ?_ | refine gK ?_ | refine gL ?_ | refine gM hC rfl ⟨⟩ ?_ | refine gM hC rfl (by exact sd) ?_
      (refine lwp_cond hC rfl (by first | exact ⟨⟩ | exact sd) (fun hb => ?_) (fun hb => ?_) <;> (try simp only [decide_eq_true_eq, decide_eq_false_iff_not, Bool.not_eq_true', Bool.not_eq_false', ne_eq, Decidable.not_not] at hb))
      · repeat first | refine lwp_seq fun K hK => ?_ | ((with_reducible refine gA ?_); apply_assumption -exfalso -symm) | refine gB ?_ | refine gC ?_ | refine gD ?_ | refine gE ?_ | refine gF rfl ?_ | refine gG rfl ?_ | refine gH ?_ | refine gI ?_ | refine gJ ?_ | refine gK ?_ | refine gL ?_ | refine gM hC rfl ⟨⟩ ?_ | refine gM hC rfl (by exact sd) ?_
        (refine lwp_region hC ⟨[], [], [(0, Awake_i)]⟩ (told1 _ (by rw [hP]; exact (calls_cons (Awake_s) calls_nil))) rfl ?_ ?_; rotate_left 1)
        · repeat first | refine lwp_seq fun K hK => ?_ | ((with_reducible refine gA ?_); apply_assumption -exfalso -symm) | refine gB ?_ | refine gC ?_ | refine gD ?_ | refine gE ?_ | refine gF rfl ?_ | refine gG rfl ?_ | refine gH ?_ | refine gI ?_ | refine gJ ?_ | refine gK ?_ | refine gL ?_ | refine gM hC rfl ⟨⟩ ?_ | refine gM hC rfl (by exact sd) ?_
          (refine end_intro (by first | exact .inr rfl | exact .inl rfl) [] rfl ?_)
          exact ⟨rfl, trivial⟩
        · exact sd
      · exact absurd hb (by decide)
    · rw [hS']
      exact sd

end Go.Proofs.YtfmnfagcbehmdaaGreatDoor
