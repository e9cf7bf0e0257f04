/- Chapter 5: whether a table proves a bound, the reference's. -/
import Derived.Test.YtfmnfagcbehmdaaGreatDoorKi
set_option linter.unusedVariables false
set_option linter.unusedSimpArgs false
namespace Go.Proofs.YtfmnfagcbehmdaaGreatDoor
open Go.RowKit Go.Sym

theorem int_at (i : Nat) : ((i : Int)).toNat = i := Int.toNat_natCast i
def RProves_i (m s : List Th) (c : Cs) (n : Nat) (R : Nat → List Int) (σ : Ren) : Inst := { f := 27, hin := tabIn m s n R, args := [rdA m s, csA c, .sl 3 n], hout := [], ret := bl (provesS m s c n R), σ := σ }
set_option maxRecDepth 20000 in
set_option maxHeartbeats 4000000 in
theorem RProves_s (m s : List Th) (c : Cs) (n : Nat) (R : Nat → List Int) (σ : Ren) (hf : AFit m s c) (ht : TabOk m s n R) : (RProves_i m s c n R σ).ok Tryz.prog := by
  have hns := ht.hn
  have hlen := ht.hlen
  have hl2 := hf.l
  have hno : ∀ i k, i < n → k < m.length → ¬ cellOk m s c R i k → provesS m s c n R = false := fun i k h1 h2 h3 => proves_no hf ht h1 h2 h3
  have hyes := @proves_iff m s c n R hf ht
  have HNO := Lib.hid hno
  have HYES := Lib.hid hyes
  have HT := Lib.hid ht
  clear hno hyes ht
  unfold RProves_i Inst.ok; dsimp only; refine spec_of_body (tys := tys) 4 Tryz.func27 (by kernel_rfl) rfl tys_ok rfl (Nat.le_of_ble_eq_true rfl) (fun _ _ h => (by cases h)) fun F hP hm hC hrd => ?_; conv => whnf
  repeat first | refine lwp_seq fun K hK => ?_ | ((with_reducible refine gA ?_); apply_assumption -exfalso -symm) | refine gB ?_ | refine gC ?_ | refine gD ?_ | refine gE ?_ | refine gF rfl ?_ | refine gG rfl ?_ | refine gH ?_ | refine gI ?_ | refine gJ ?_ | refine gK ?_ | refine gL ?_ | refine gM hC rfl ⟨⟩ ?_ | refine gM hC rfl (by exact sd) ?_
  refine lwp_loop (fun i : Nat => ⟨[(7, i64 i), (2, .sl 3 n), (3, .ptr 4 0 0 0), (4, .ptr 5 0 0 0)], [(0, .ro m.length 2 (thC m)), (1, .ro s.length 2 (thC s)), (2, roF n R), (3, roT 2 n R), (4, .blk 25 [.sl 0 m.length, .sl 1 s.length]), (5, .blk 27 [i64 c.missed, i64 c.unseen, i64 c.stretch])], 6⟩) (fun i => i ≤ n ∧ ∀ e k, e < i → k < m.length → cellOk m s c R e k) (fun i => n - i) 0 ⟨?_, sub_intro hm [(0, some 0), (1, some 1), (2, some 2), (3, some 3), (4, some 4), (5, some 5)] rfl ?_⟩ ?_
  · exact ⟨Nat.zero_le _, fun e k he => absurd he (Nat.not_lt_zero _)⟩
  · exact sd
  · rintro i ⟨hi, hie⟩
    have e1 : (i : Int).toNat = i := Int.toNat_natCast i
    have HIE := Lib.hid hie
    clear hie
    repeat first | refine lwp_seq fun K hK => ?_ | ((with_reducible refine gA ?_); apply_assumption -exfalso -symm) | refine gB ?_ | refine gC ?_ | refine gD ?_ | refine gE ?_ | refine gF rfl ?_ | refine gG rfl ?_ | refine gH ?_ | refine gI ?_ | refine gJ ?_ | refine gK ?_ | refine gL ?_ | refine gM hC rfl ⟨⟩ ?_ | refine gM hC rfl (by exact sd) ?_
    (refine lwp_cond hC rfl (by first | exact ⟨⟩ | exact sd) (fun hb => ?_) (fun hb => ?_) <;> (try simp only [decide_eq_true_eq, decide_eq_false_iff_not, Bool.not_eq_true', Bool.not_eq_false', ne_eq, Decidable.not_not] at hb))
    · have hin : i < n := by omega
      have hil := hlen i hin
      repeat first | refine lwp_seq fun K hK => ?_ | ((with_reducible refine gA ?_); apply_assumption -exfalso -symm) | refine gB ?_ | refine gC ?_ | refine gD ?_ | refine gE ?_ | refine gF rfl ?_ | refine gG rfl ?_ | refine gH ?_ | refine gI ?_ | refine gJ ?_ | refine gK ?_ | refine gL ?_ | refine gM hC rfl ⟨⟩ ?_ | refine gM hC rfl (by exact sd) ?_
      refine lwp_loop (fun k : Nat => ⟨[(8, i64 k), (7, i64 i), (2, .sl 3 n), (3, .ptr 4 0 0 0), (4, .ptr 5 0 0 0)], [(0, .ro m.length 2 (thC m)), (1, .ro s.length 2 (thC s)), (2, roF n R), (3, roT 2 n R), (4, .blk 25 [.sl 0 m.length, .sl 1 s.length]), (5, .blk 27 [i64 c.missed, i64 c.unseen, i64 c.stretch])], 6⟩) (fun k => k ≤ m.length ∧ ∀ e, e < k → cellOk m s c R i e) (fun k => m.length - k) 0 ⟨?_, sub_intro hm [(0, some 0), (1, some 1), (2, some 2), (3, some 3), (4, some 4), (5, some 5)] rfl ?_⟩ ?_
      · exact ⟨Nat.zero_le _, fun e he => absurd he (Nat.not_lt_zero _)⟩
      · exact sd
      · rintro k ⟨hk, hke⟩
        have e2 : (k : Int).toNat = k := Int.toNat_natCast k
        have HKE := Lib.hid hke
        clear hke
        repeat first | refine lwp_seq fun K hK => ?_ | ((with_reducible refine gA ?_); apply_assumption -exfalso -symm) | refine gB ?_ | refine gC ?_ | refine gD ?_ | refine gE ?_ | refine gF rfl ?_ | refine gG rfl ?_ | refine gH ?_ | refine gI ?_ | refine gJ ?_ | refine gK ?_ | refine gL ?_ | refine gM hC rfl ⟨⟩ ?_ | refine gM hC rfl (by exact sd) ?_
        simp only [e1]
        (refine lwp_cond hC rfl (by first | exact ⟨⟩ | exact sd) (fun hb => ?_) (fun hb => ?_) <;> (try simp only [decide_eq_true_eq, decide_eq_false_iff_not, Bool.not_eq_true', Bool.not_eq_false', ne_eq, Decidable.not_not] at hb))
        · have hkm : k < m.length := by omega
          have hp : inS m s ((i : Int), (k : Int)) := inS_cast (by omega) hkm
          have hx := HT.out.hrg i hin k
          have k1 := mul_small (b := (i : Int)) hf.c.1 (by omega)
          have hm0 := Int.mul_nonneg hf.c.1.1 (show (0 : Int) ≤ i by omega)
          have hstep : cellOk m s c R i k → (k + 1 ≤ m.length ∧ ∀ e, e < k + 1 → cellOk m s c R i e) := fun h => ⟨by omega, fun e he => by rcases Nat.lt_succ_iff_lt_or_eq.1 he with h1 | rfl; exact HKE.out e h1; exact h⟩
          have hbad : ¬ cellOk m s c R i k → provesS m s c n R = false := fun h => HNO.out i k hin hkm h
          have HS := Lib.hid hstep
          have HBD := Lib.hid hbad
          clear hstep hbad
          repeat first | refine lwp_seq fun K hK => ?_ | ((with_reducible refine gA ?_); apply_assumption -exfalso -symm) | refine gB ?_ | refine gC ?_ | refine gD ?_ | refine gE ?_ | refine gF rfl ?_ | refine gG rfl ?_ | refine gH ?_ | refine gI ?_ | refine gJ ?_ | refine gK ?_ | refine gL ?_ | refine gM hC rfl ⟨⟩ ?_ | refine gM hC rfl (by exact sd) ?_
          cases hA : (decide ((R i).getD k 0 ≥ 0) != alikeS m s ((i : Int), (k : Int))) with
          | true =>
            have hnot : ¬ cellOk m s c R i k := by
              rintro ⟨h1, _⟩
              by_cases h2 : (R i).getD k 0 < 0
              · rw [h1.1 h2, decide_eq_false (by omega)] at hA; cases hA
              · cases h3 : alikeS m s ((i : Int), (k : Int)) with
                | false => exact h2 (h1.2 h3)
                | true => rw [h3, decide_eq_true (by omega)] at hA; cases hA
            have hE := HBD.out hnot
            (refine lwp_drawn2 hC (by rw [hP]; exact mixed) ⟨[(12, { b := some true }), (13, { g := some false }), (14, { g := some false }), (15, { g := some false }), (16, { g := some false }), (17, { g := some false }), (18, { g := some false }), (19, { g := some false }), (20, { g := some false }), (21, { g := some false }), (22, { g := some false }), (23, { g := some false }), (24, { g := some false })], [], [(10, RAlike_i m s ((i : Int), (k : Int)) [(0, some 0), (1, some 1)])]⟩ (told1 _ (by rw [hP]; exact (calls_cons (RAlike_s _ _ _ _ (by omega) (by omega) hp) calls_nil))) [0, 0, 3, 7, 0, 31, 63, 127, 0, 0, 768, 2047, 4095, 8191, 8191, 32767, 65535, 8191, 262143, 524287, 8191, 1056767, 8191, 7348223, 16777215, 33554431] 26 0 rfl ?_ ?_; rotate_left 1)
            · repeat first | refine lwp_seq fun K hK => ?_ | ((with_reducible refine gA ?_); apply_assumption -exfalso -symm) | refine gB ?_ | refine gC ?_ | refine gD ?_ | refine gE ?_ | refine gF rfl ?_ | refine gG rfl ?_ | refine gH ?_ | refine gI ?_ | refine gJ ?_ | refine gK ?_ | refine gL ?_ | refine gM hC rfl ⟨⟩ ?_ | refine gM hC rfl (by exact sd) ?_
              (refine lwp_cond hC rfl (by first | exact ⟨⟩ | exact sd) (fun hb => ?_) (fun hb => ?_) <;> (try simp only [decide_eq_true_eq, decide_eq_false_iff_not, Bool.not_eq_true', Bool.not_eq_false', ne_eq, Decidable.not_not] at hb))
              · repeat first | refine lwp_seq fun K hK => ?_ | ((with_reducible refine gA ?_); apply_assumption -exfalso -symm) | refine gB ?_ | refine gC ?_ | refine gD ?_ | refine gE ?_ | refine gF rfl ?_ | refine gG rfl ?_ | refine gH ?_ | refine gI ?_ | refine gJ ?_ | refine gK ?_ | refine gL ?_ | refine gM hC rfl ⟨⟩ ?_ | refine gM hC rfl (by exact sd) ?_
                (refine end_intro (by first | exact .inr rfl | exact .inl rfl) [(0, some 0), (1, some 1), (2, some 2), (3, some 3)] rfl ?_)
                rw [hE]
                exact sd
              · simp at hb
            · simp only [e1, e2]
              exact sd
          | false =>
            have hkd : ((R i).getD k 0 < 0 ↔ alikeS m s ((i : Int), (k : Int)) = false) := by
              by_cases h2 : (R i).getD k 0 < 0
              · rw [decide_eq_false (show ¬ (R i).getD k 0 ≥ 0 by omega)] at hA
                cases h3 : alikeS m s ((i : Int), (k : Int)) with
                | false => exact ⟨fun _ => rfl, fun _ => h2⟩
                | true => rw [h3] at hA; cases hA
              · rw [decide_eq_true (show (R i).getD k 0 ≥ 0 by omega)] at hA
                cases h3 : alikeS m s ((i : Int), (k : Int)) with
                | false => rw [h3] at hA; cases hA
                | true => exact ⟨fun h => absurd h h2, fun h => by cases h⟩
            have HKD := Lib.hid hkd
            clear hkd
            (refine lwp_drawn2 hC (by rw [hP]; exact mixed) ⟨[(12, { b := some false })], [], [(10, RAlike_i m s ((i : Int), (k : Int)) [(0, some 0), (1, some 1)])]⟩ (told1 _ (by rw [hP]; exact (calls_cons (RAlike_s _ _ _ _ (by omega) (by omega) hp) calls_nil))) [0, 0, 3, 7, 0, 31, 63, 127, 0, 0, 768, 2047, 4095, 8191, 8191, 32767, 65535, 8191, 262143, 524287, 8191, 1056767, 8191, 7348223, 16777215, 33554431] 26 0 rfl ?_ ?_; rotate_left 1)
            · simp only [e1, e2]
              repeat first | refine lwp_seq fun K hK => ?_ | ((with_reducible refine gA ?_); apply_assumption -exfalso -symm) | refine gB ?_ | refine gC ?_ | refine gD ?_ | refine gE ?_ | refine gF rfl ?_ | refine gG rfl ?_ | refine gH ?_ | refine gI ?_ | refine gJ ?_ | refine gK ?_ | refine gL ?_ | refine gM hC rfl ⟨⟩ ?_ | refine gM hC rfl (by exact sd) ?_
              (refine lwp_cond hC rfl (by first | exact ⟨⟩ | exact sd) (fun hb => ?_) (fun hb => ?_) <;> (try simp only [decide_eq_true_eq, decide_eq_false_iff_not, Bool.not_eq_true', Bool.not_eq_false', ne_eq, Decidable.not_not] at hb))
              · have hgt : (R i).getD k 0 > c.missed * (i : Int) := by simpa using hb
                have hE := HBD.out fun h => by have := h.2.1; omega
                repeat first | refine lwp_seq fun K hK => ?_ | ((with_reducible refine gA ?_); apply_assumption -exfalso -symm) | refine gB ?_ | refine gC ?_ | refine gD ?_ | refine gE ?_ | refine gF rfl ?_ | refine gG rfl ?_ | refine gH ?_ | refine gI ?_ | refine gJ ?_ | refine gK ?_ | refine gL ?_ | refine gM hC rfl ⟨⟩ ?_ | refine gM hC rfl (by exact sd) ?_
                (refine end_intro (by first | exact .inr rfl | exact .inl rfl) [(0, some 0), (1, some 1), (2, some 2), (3, some 3)] rfl ?_)
                rw [hE]
                exact sd
              · have hle : (R i).getD k 0 ≤ c.missed * (i : Int) := by simpa using hb
                clear hb
                repeat first | refine lwp_seq fun K hK => ?_ | ((with_reducible refine gA ?_); apply_assumption -exfalso -symm) | refine gB ?_ | refine gC ?_ | refine gD ?_ | refine gE ?_ | refine gF rfl ?_ | refine gG rfl ?_ | refine gH ?_ | refine gI ?_ | refine gJ ?_ | refine gK ?_ | refine gL ?_ | refine gM hC rfl ⟨⟩ ?_ | refine gM hC rfl (by exact sd) ?_
                simp only [e1, e2]
                (refine lwp_cond hC rfl (by first | exact ⟨⟩ | exact sd) (fun hb => ?_) (fun hb => ?_) <;> (try simp only [decide_eq_true_eq, decide_eq_false_iff_not, Bool.not_eq_true', Bool.not_eq_false', ne_eq, Decidable.not_not] at hb))
                · have hgood : cellOk m s c R i k := ⟨HKD.out, hle, fun h => by omega⟩
                  have hnx := HS.out hgood
                  clear hgood
                  repeat first | refine lwp_seq fun K hK => ?_ | ((with_reducible refine gA ?_); apply_assumption -exfalso -symm) | refine gB ?_ | refine gC ?_ | refine gD ?_ | refine gE ?_ | refine gF rfl ?_ | refine gG rfl ?_ | refine gH ?_ | refine gI ?_ | refine gJ ?_ | refine gK ?_ | refine gL ?_ | refine gM hC rfl ⟨⟩ ?_ | refine gM hC rfl (by exact sd) ?_
                  refine gA ⟨k + 1, ?_, ?_, sub_intro hm [(0, some 0), (1, some 1), (2, some 2), (3, some 3), (4, some 4), (5, some 5)] rfl ?_⟩
                  · exact hnx
                  · omega
                  · exact sd
                · have hge : (R i).getD k 0 ≥ 0 := by omega
                  clear hb
                  repeat first | refine lwp_seq fun K hK => ?_ | ((with_reducible refine gA ?_); apply_assumption -exfalso -symm) | refine gB ?_ | refine gC ?_ | refine gD ?_ | refine gE ?_ | refine gF rfl ?_ | refine gG rfl ?_ | refine gH ?_ | refine gI ?_ | refine gJ ?_ | refine gK ?_ | refine gL ?_ | refine gM hC rfl ⟨⟩ ?_ | refine gM hC rfl (by exact sd) ?_
                  refine lwp_loop (fun p : Nat => ⟨[(10, i64 p), (9, .ptr 6 0 0 0), (8, i64 k), (7, i64 i), (2, .sl 3 n), (3, .ptr 4 0 0 0), (4, .ptr 5 0 0 0)], [(6, .blk 76 [i64 i, i64 k]), (0, .ro m.length 2 (thC m)), (1, .ro s.length 2 (thC s)), (2, roF n R), (3, roT 2 n R), (4, .blk 25 [.sl 0 m.length, .sl 1 s.length]), (5, .blk 27 [i64 c.missed, i64 c.unseen, i64 c.stretch])], 7⟩) (fun p => p ≤ i ∧ ∀ e q, e < p → q < k → (R e).getD q 0 ≥ 0 → (R i).getD k 0 ≤ (R e).getD q 0 + grownS m s c ((e : Int), (q : Int)) ((i : Int), (k : Int))) (fun p => i - p) 0 ⟨?_, sub_intro hm [(0, some 0), (1, some 1), (2, some 2), (3, some 3), (4, some 4), (5, some 5), (6, some 6)] rfl ?_⟩ ?_
                  · exact ⟨Nat.zero_le _, fun e q he => absurd he (Nat.not_lt_zero _)⟩
                  · exact sd
                  · rintro p ⟨hpi, hpe⟩
                    have e3 : (p : Int).toNat = p := Int.toNat_natCast p
                    have HPE := Lib.hid hpe
                    clear hpe
                    repeat first | refine lwp_seq fun K hK => ?_ | ((with_reducible refine gA ?_); apply_assumption -exfalso -symm) | refine gB ?_ | refine gC ?_ | refine gD ?_ | refine gE ?_ | refine gF rfl ?_ | refine gG rfl ?_ | refine gH ?_ | refine gI ?_ | refine gJ ?_ | refine gK ?_ | refine gL ?_ | refine gM hC rfl ⟨⟩ ?_ | refine gM hC rfl (by exact sd) ?_
                    (refine lwp_cond hC rfl (by first | exact ⟨⟩ | exact sd) (fun hb => ?_) (fun hb => ?_) <;> (try simp only [decide_eq_true_eq, decide_eq_false_iff_not, Bool.not_eq_true', Bool.not_eq_false', ne_eq, Decidable.not_not] at hb))
                    · have hpl : p < i := by omega
                      have hlp := hlen p (by omega)
                      repeat first | refine lwp_seq fun K hK => ?_ | ((with_reducible refine gA ?_); apply_assumption -exfalso -symm) | refine gB ?_ | refine gC ?_ | refine gD ?_ | refine gE ?_ | refine gF rfl ?_ | refine gG rfl ?_ | refine gH ?_ | refine gI ?_ | refine gJ ?_ | refine gK ?_ | refine gL ?_ | refine gM hC rfl ⟨⟩ ?_ | refine gM hC rfl (by exact sd) ?_
                      refine lwp_loop (fun q : Nat => ⟨[(11, i64 q), (10, i64 p), (9, .ptr 6 0 0 0), (8, i64 k), (7, i64 i), (2, .sl 3 n), (3, .ptr 4 0 0 0), (4, .ptr 5 0 0 0)], [(6, .blk 76 [i64 i, i64 k]), (0, .ro m.length 2 (thC m)), (1, .ro s.length 2 (thC s)), (2, roF n R), (3, roT 2 n R), (4, .blk 25 [.sl 0 m.length, .sl 1 s.length]), (5, .blk 27 [i64 c.missed, i64 c.unseen, i64 c.stretch])], 7⟩) (fun q => q ≤ k ∧ ∀ e, e < q → (R p).getD e 0 ≥ 0 → (R i).getD k 0 ≤ (R p).getD e 0 + grownS m s c ((p : Int), (e : Int)) ((i : Int), (k : Int))) (fun q => k - q) 0 ⟨?_, sub_intro hm [(0, some 0), (1, some 1), (2, some 2), (3, some 3), (4, some 4), (5, some 5), (6, some 6)] rfl ?_⟩ ?_
                      · exact ⟨Nat.zero_le _, fun e he => absurd he (Nat.not_lt_zero _)⟩
                      · exact sd
                      · rintro q ⟨hq, hqe⟩
                        have e4 : (q : Int).toNat = q := Int.toNat_natCast q
                        have HQE := Lib.hid hqe
                        clear hqe
                        repeat first | refine lwp_seq fun K hK => ?_ | ((with_reducible refine gA ?_); apply_assumption -exfalso -symm) | refine gB ?_ | refine gC ?_ | refine gD ?_ | refine gE ?_ | refine gF rfl ?_ | refine gG rfl ?_ | refine gH ?_ | refine gI ?_ | refine gJ ?_ | refine gK ?_ | refine gL ?_ | refine gM hC rfl ⟨⟩ ?_ | refine gM hC rfl (by exact sd) ?_
                        (refine lwp_cond hC rfl (by first | exact ⟨⟩ | exact sd) (fun hb => ?_) (fun hb => ?_) <;> (try simp only [decide_eq_true_eq, decide_eq_false_iff_not, Bool.not_eq_true', Bool.not_eq_false', ne_eq, Decidable.not_not] at hb))
                        · have hqk : q < k := by omega
                          have hy := HT.out.hrg p (by omega) q
                          have hpq : inS m s ((p : Int), (q : Int)) := inS_cast (by omega) (by omega)
                          have hgs := grownS_small hf.c hl2 hf.pm hf.ps hpq hp
                          have hnx : ((R p).getD q 0 ≥ 0 → (R i).getD k 0 ≤ (R p).getD q 0 + grownS m s c ((p : Int), (q : Int)) ((i : Int), (k : Int))) → (q + 1 ≤ k ∧ ∀ e, e < q + 1 → (R p).getD e 0 ≥ 0 → (R i).getD k 0 ≤ (R p).getD e 0 + grownS m s c ((p : Int), (e : Int)) ((i : Int), (k : Int))) := fun h => ⟨by omega, fun e he => by rcases Nat.lt_succ_iff_lt_or_eq.1 he with h1 | rfl; exact HQE.out e h1; exact h⟩
                          have HNX := Lib.hid hnx
                          clear hnx
                          repeat first | refine lwp_seq fun K hK => ?_ | ((with_reducible refine gA ?_); apply_assumption -exfalso -symm) | refine gB ?_ | refine gC ?_ | refine gD ?_ | refine gE ?_ | refine gF rfl ?_ | refine gG rfl ?_ | refine gH ?_ | refine gI ?_ | refine gJ ?_ | refine gK ?_ | refine gL ?_ | refine gM hC rfl ⟨⟩ ?_ | refine gM hC rfl (by exact sd) ?_
                          by_cases hg : (R p).getD q 0 ≥ 0
                          · (refine lwp_drawn2 hC (by rw [hP]; exact mixed) ⟨[(8, { b := some true })], [], [(29, Step_i m s c ((p : Int), (q : Int)) ((i : Int), (k : Int)) [(0, some 0), (1, some 1)])]⟩ (told1 _ (by rw [hP]; exact (calls_cons (Step_s _ _ _ _ _ _ hf.c hl2 hf.pm hf.ps hpq hp) calls_nil))) [0, 0, 3, 7, 0, 31, 63, 127, 255, 511, 511, 2047, 4095, 511, 16383, 32767, 511, 511, 197119, 459263, 511, 2032127, 4129279, 511, 511, 511, 511, 100663807, 511, 528482815, 1073676799, 2147483647, 4294967295] 33 0 rfl ?_ ?_; rotate_left 1)
                            · simp only [e1, e2, e3, e4]
                              repeat first | refine lwp_seq fun K hK => ?_ | ((with_reducible refine gA ?_); apply_assumption -exfalso -symm) | refine gB ?_ | refine gC ?_ | refine gD ?_ | refine gE ?_ | refine gF rfl ?_ | refine gG rfl ?_ | refine gH ?_ | refine gI ?_ | refine gJ ?_ | refine gK ?_ | refine gL ?_ | refine gM hC rfl ⟨⟩ ?_ | refine gM hC rfl (by exact sd) ?_
                              (refine lwp_cond hC rfl (by first | exact ⟨⟩ | exact sd) (fun hb => ?_) (fun hb => ?_) <;> (try simp only [decide_eq_true_eq, decide_eq_false_iff_not, Bool.not_eq_true', Bool.not_eq_false', ne_eq, Decidable.not_not] at hb))
                              · have hgt : (R i).getD k 0 > (R p).getD q 0 + grownS m s c ((p : Int), (q : Int)) ((i : Int), (k : Int)) := by simpa using hb
                                have hE := HBD.out fun h => by have := h.2.2 hge p q hpl hqk hg; omega
                                repeat first | refine lwp_seq fun K hK => ?_ | ((with_reducible refine gA ?_); apply_assumption -exfalso -symm) | refine gB ?_ | refine gC ?_ | refine gD ?_ | refine gE ?_ | refine gF rfl ?_ | refine gG rfl ?_ | refine gH ?_ | refine gI ?_ | refine gJ ?_ | refine gK ?_ | refine gL ?_ | refine gM hC rfl ⟨⟩ ?_ | refine gM hC rfl (by exact sd) ?_
                                (refine end_intro (by first | exact .inr rfl | exact .inl rfl) [(0, some 0), (1, some 1), (2, some 2), (3, some 3)] rfl ?_)
                                rw [hE]
                                exact sd
                              · have hle2 : (R i).getD k 0 ≤ (R p).getD q 0 + grownS m s c ((p : Int), (q : Int)) ((i : Int), (k : Int)) := by simpa using hb
                                have hn2 := HNX.out fun _ => hle2
                                clear hb
                                repeat first | refine lwp_seq fun K hK => ?_ | ((with_reducible refine gA ?_); apply_assumption -exfalso -symm) | refine gB ?_ | refine gC ?_ | refine gD ?_ | refine gE ?_ | refine gF rfl ?_ | refine gG rfl ?_ | refine gH ?_ | refine gI ?_ | refine gJ ?_ | refine gK ?_ | refine gL ?_ | refine gM hC rfl ⟨⟩ ?_ | refine gM hC rfl (by exact sd) ?_
                                refine gA ⟨q + 1, ?_, ?_, sub_intro hm [(0, some 0), (1, some 1), (2, some 2), (3, some 3), (4, some 4), (5, some 5), (6, some 6)] rfl ?_⟩
                                · exact hn2
                                · omega
                                · exact sd
                            · simp only [e1, e2, e3, e4]
                              exact sd
                          · have hn2 := HNX.out fun h => absurd h hg
                            (refine lwp_drawn2 hC (by rw [hP]; exact mixed) ⟨[(8, { b := some false }), (9, { g := some false }), (10, { g := some false }), (11, { g := some false }), (12, { g := some false }), (13, { g := some false }), (14, { g := some false }), (15, { g := some false }), (16, { g := some false }), (17, { g := some false }), (18, { g := some false }), (19, { g := some false }), (20, { g := some false }), (21, { g := some false }), (22, { g := some false }), (23, { g := some false }), (24, { g := some false }), (25, { g := some false }), (26, { g := some false }), (27, { g := some false }), (28, { g := some false }), (29, { g := some false }), (30, { g := some false }), (31, { g := some false })], [], []⟩ (told0 _ _) [0, 0, 3, 7, 0, 31, 63, 127, 255, 511, 511, 2047, 4095, 511, 16383, 32767, 511, 511, 197119, 459263, 511, 2032127, 4129279, 511, 511, 511, 511, 100663807, 511, 528482815, 1073676799, 2147483647, 4294967295] 33 0 rfl ?_ ?_; rotate_left 1)
                            · repeat first | refine lwp_seq fun K hK => ?_ | ((with_reducible refine gA ?_); apply_assumption -exfalso -symm) | refine gB ?_ | refine gC ?_ | refine gD ?_ | refine gE ?_ | refine gF rfl ?_ | refine gG rfl ?_ | refine gH ?_ | refine gI ?_ | refine gJ ?_ | refine gK ?_ | refine gL ?_ | refine gM hC rfl ⟨⟩ ?_ | refine gM hC rfl (by exact sd) ?_
                              (refine lwp_cond hC rfl (by first | exact ⟨⟩ | exact sd) (fun hb => ?_) (fun hb => ?_) <;> (try simp only [decide_eq_true_eq, decide_eq_false_iff_not, Bool.not_eq_true', Bool.not_eq_false', ne_eq, Decidable.not_not] at hb))
                              · simp at hb
                              · clear hb
                                repeat first | refine lwp_seq fun K hK => ?_ | ((with_reducible refine gA ?_); apply_assumption -exfalso -symm) | refine gB ?_ | refine gC ?_ | refine gD ?_ | refine gE ?_ | refine gF rfl ?_ | refine gG rfl ?_ | refine gH ?_ | refine gI ?_ | refine gJ ?_ | refine gK ?_ | refine gL ?_ | refine gM hC rfl ⟨⟩ ?_ | refine gM hC rfl (by exact sd) ?_
                                refine gA ⟨q + 1, ?_, ?_, sub_intro hm [(0, some 0), (1, some 1), (2, some 2), (3, some 3), (4, some 4), (5, some 5), (6, some 6)] rfl ?_⟩
                                · exact hn2
                                · omega
                                · exact sd
                            · simp only [e1, e2, e3, e4]
                              exact sd
                        · obtain rfl : q = k := by omega
                          have hn3 : p + 1 ≤ i ∧ ∀ e q', e < p + 1 → q' < q → (R e).getD q' 0 ≥ 0 → (R i).getD q 0 ≤ (R e).getD q' 0 + grownS m s c ((e : Int), (q' : Int)) ((i : Int), (q : Int)) := ⟨by omega, fun e q' he hq' hge' => by rcases Nat.lt_succ_iff_lt_or_eq.1 he with h1 | rfl; exact HPE.out e q' h1 hq' hge'; exact HQE.out q' hq' hge'⟩
                          repeat first | refine lwp_seq fun K hK => ?_ | ((with_reducible refine gA ?_); apply_assumption -exfalso -symm) | refine gB ?_ | refine gC ?_ | refine gD ?_ | refine gE ?_ | refine gF rfl ?_ | refine gG rfl ?_ | refine gH ?_ | refine gI ?_ | refine gJ ?_ | refine gK ?_ | refine gL ?_ | refine gM hC rfl ⟨⟩ ?_ | refine gM hC rfl (by exact sd) ?_
                          refine gA ⟨p + 1, ?_, ?_, sub_intro hm [(0, some 0), (1, some 1), (2, some 2), (3, some 3), (4, some 4), (5, some 5), (6, some 6)] rfl ?_⟩
                          · exact hn3
                          · omega
                          · exact sd
                    · obtain rfl : p = i := by omega
                      have hgood : cellOk m s c R p k := ⟨HKD.out, hle, fun _ => HPE.out⟩
                      have hnx := HS.out hgood
                      clear hgood
                      repeat first | refine lwp_seq fun K hK => ?_ | ((with_reducible refine gA ?_); apply_assumption -exfalso -symm) | refine gB ?_ | refine gC ?_ | refine gD ?_ | refine gE ?_ | refine gF rfl ?_ | refine gG rfl ?_ | refine gH ?_ | refine gI ?_ | refine gJ ?_ | refine gK ?_ | refine gL ?_ | refine gM hC rfl ⟨⟩ ?_ | refine gM hC rfl (by exact sd) ?_
                      refine gA ⟨k + 1, ?_, ?_, sub_intro hm [(0, some 0), (1, some 1), (2, some 2), (3, some 3), (4, some 4), (5, some 5)] rfl ?_⟩
                      · exact hnx
                      · omega
                      · exact sd
            · simp only [e1, e2]
              exact sd
        · obtain rfl : k = m.length := by omega
          have hn4 : i + 1 ≤ n ∧ ∀ e k, e < i + 1 → k < m.length → cellOk m s c R e k := ⟨by omega, fun e k he hk => by rcases Nat.lt_succ_iff_lt_or_eq.1 he with h1 | rfl; exact HIE.out e k h1 hk; exact HKE.out k hk⟩
          repeat first | refine lwp_seq fun K hK => ?_ | ((with_reducible refine gA ?_); apply_assumption -exfalso -symm) | refine gB ?_ | refine gC ?_ | refine gD ?_ | refine gE ?_ | refine gF rfl ?_ | refine gG rfl ?_ | refine gH ?_ | refine gI ?_ | refine gJ ?_ | refine gK ?_ | refine gL ?_ | refine gM hC rfl ⟨⟩ ?_ | refine gM hC rfl (by exact sd) ?_
          refine gA ⟨i + 1, ?_, ?_, sub_intro hm [(0, some 0), (1, some 1), (2, some 2), (3, some 3), (4, some 4), (5, some 5)] rfl ?_⟩
          · exact hn4
          · omega
          · exact sd
    · obtain rfl : i = n := by omega
      have hE : provesS m s c i R = true := HYES.out.2 HIE.out
      repeat first | refine lwp_seq fun K hK => ?_ | ((with_reducible refine gA ?_); apply_assumption -exfalso -symm) | refine gB ?_ | refine gC ?_ | refine gD ?_ | refine gE ?_ | refine gF rfl ?_ | refine gG rfl ?_ | refine gH ?_ | refine gI ?_ | refine gJ ?_ | refine gK ?_ | refine gL ?_ | refine gM hC rfl ⟨⟩ ?_ | refine gM hC rfl (by exact sd) ?_
      (refine end_intro (by first | exact .inr rfl | exact .inl rfl) [(0, some 0), (1, some 1), (2, some 2), (3, some 3)] rfl ?_)
      rw [hE]
      exact sd

end Go.Proofs.YtfmnfagcbehmdaaGreatDoor
