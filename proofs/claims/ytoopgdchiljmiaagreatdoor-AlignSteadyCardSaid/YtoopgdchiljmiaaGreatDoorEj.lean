/- Chapter 5: guesses, the reference's and the program's. -/
import Derived.Test.YtoopgdchiljmiaaGreatDoorEh
set_option linter.unusedVariables false
set_option linter.unusedSimpArgs false
namespace Go.Proofs.YtoopgdchiljmiaaGreatDoor
open Go.RowKit Go.Sym

theorem step_small {m s : List Th} {n : Int} {l : List (Int × Int)} (h : Good m s l) (hn : 0 ≤ n ∧ n ≤ 100000000) {i j : Nat} (hij : i < j) (hj : j < l.length) : (-40000000000000000 ≤ (n - cnt s (prAt l i)) * (plc m (prAt l j) - plc m (prAt l i)) ∧ (n - cnt s (prAt l i)) * (plc m (prAt l j) - plc m (prAt l i)) ≤ 40000000000000000) ∧ 0 < cnt s (prAt l j) - cnt s (prAt l i) ∧ cnt s (prAt l j) - cnt s (prAt l i) ≤ 200000000 := by
  have c1 := cnt_bound h.ps (prAt l i)
  have c2 := plc_bound h.pm (prAt l i)
  have c3 := cnt_bound h.ps (prAt l j)
  have c4 := plc_bound h.pm (prAt l j)
  have c5 := h.up i j hij hj
  exact ⟨mul_bound (by omega) (by omega), by omega, by omega⟩
def RGuess_i (m s : List Th) (n : Int) (l : List (Int × Int)) (σ : Ren) : Inst := { f := 123, hin := costIn m s l, args := [rdA m s, .sl 2 l.length, i64 n], hout := [], ret := i64 (guessS m s n l (-1, -1)), σ := σ }
set_option maxRecDepth 20000 in
set_option maxHeartbeats 4000000 in
theorem RGuess_s (m s : List Th) (n : Int) (l : List (Int × Int)) (σ : Ren) (h : Good m s l) (hn : 0 ≤ n ∧ n ≤ 100000000) (h0 : 0 < l.length) : (RGuess_i m s n l σ).ok Tryz.prog := by
  have hl64 := h.hl
  have hm64 := h.hm
  have hs64 := h.hs
  unfold RGuess_i Inst.ok; dsimp only; refine spec_of_body (tys := tys) 3 Tryz.func123 (by kernel_rfl) rfl tys_ok rfl (Nat.le_of_ble_eq_true rfl) (fun _ _ h => (by cases h)) fun F hP hm hC hrd => ?_; conv => whnf
  repeat first | refine lwp_seq fun K hK => ?_ | ((with_reducible refine gA ?_); apply_assumption -exfalso -symm) | refine gB ?_ | refine gC ?_ | refine gD ?_ | refine gE ?_ | refine gF rfl ?_ | refine gG rfl ?_ | refine gH ?_ | refine gI ?_ | refine gJ ?_ | refine gK ?_ | refine gL ?_ | refine lwp_region hC ⟨[], [], []⟩ (told0 _ _) rfl ⟨⟩ ?_ | refine lwp_region hC ⟨[], [], []⟩ (told0 _ _) rfl (by exact sd) ?_
  refine lwp_loop (fun k : Nat => ⟨[(7, i64 k), (1, .sl 2 l.length), (2, i64 n), (3, .ptr 3 0 0 0)], [(3, .blk 25 [.sl 0 m.length, .sl 1 s.length]), (0, .ro m.length 2 (thC m)), (1, .ro s.length 2 (thC s)), (2, .ro l.length 2 (prC l))], 4⟩) (fun k => k < l.length ∧ (k ≠ 0 → cnt s (prAt l k) ≤ n) ∧ ∃ a, (a = (-1, -1) → k = 0) ∧ guessS m s n l (-1, -1) = guessS m s n (l.drop k) a) (fun k => l.length - k) 0 ⟨?_, sub_intro hm [(0, some 0), (1, some 1), (2, some 2), (3, some 3)] rfl ?_⟩ ?_
  · exact ⟨h0, fun h => absurd rfl h, (-1, -1), fun _ => rfl, rfl⟩
  · exact sd
  · rintro k ⟨hk, hin, a, ha, hf⟩
    obtain ⟨⟨i1, i2⟩, i3, i4⟩ := h.p k hk
    have c1 := cnt_bound h.ps (prAt l k)
    have c2 := plc_bound h.pm (prAt l k)
    have e1 : (k : Int).toNat = k := Int.toNat_natCast k
    have d1 := c1
    have d2 := c2
    unfold cnt thAt at d1
    unfold plc thAt at d2
    repeat first | refine lwp_seq fun K hK => ?_ | ((with_reducible refine gA ?_); apply_assumption -exfalso -symm) | refine gB ?_ | refine gC ?_ | refine gD ?_ | refine gE ?_ | refine gF rfl ?_ | refine gG rfl ?_ | refine gH ?_ | refine gI ?_ | refine gJ ?_ | refine gK ?_ | refine gL ?_ | refine lwp_region hC ⟨[], [], []⟩ (told0 _ _) rfl ⟨⟩ ?_ | refine lwp_region hC ⟨[], [], []⟩ (told0 _ _) rfl (by exact sd) ?_
    (refine lwp_cond hC rfl (by first | exact ⟨⟩ | exact sd) (fun hb => ?_) (fun hb => ?_) <;> (try simp only [decide_eq_true_eq, decide_eq_false_iff_not, Bool.not_eq_true', Bool.not_eq_false', ne_eq, Decidable.not_not] at hb))
    · repeat first | refine lwp_seq fun K hK => ?_ | ((with_reducible refine gA ?_); apply_assumption -exfalso -symm) | refine gB ?_ | refine gC ?_ | refine gD ?_ | refine gE ?_ | refine gF rfl ?_ | refine gG rfl ?_ | refine gH ?_ | refine gI ?_ | refine gJ ?_ | refine gK ?_ | refine gL ?_ | refine lwp_region hC ⟨[], [], []⟩ (told0 _ _) rfl ⟨⟩ ?_ | refine lwp_region hC ⟨[], [], []⟩ (told0 _ _) rfl (by exact sd) ?_
      (refine lwp_drawn2 hC (by rw [hP]; exact mixed) ⟨[], [], []⟩ (told0 _ _) [0, 1, 0, 0, 12, 28, 60, 127, 255, 511, 0, 1024, 0, 0, 12288, 28672, 61440, 130048, 261120, 523264, 1023, 2097151] 22 0 rfl ?_ ?_; rotate_left 1)
      · rw [e1]
        repeat first | refine lwp_seq fun K hK => ?_ | ((with_reducible refine gA ?_); apply_assumption -exfalso -symm) | refine gB ?_ | refine gC ?_ | refine gD ?_ | refine gE ?_ | refine gF rfl ?_ | refine gG rfl ?_ | refine gH ?_ | refine gI ?_ | refine gJ ?_ | refine gK ?_ | refine gL ?_ | refine lwp_region hC ⟨[], [], []⟩ (told0 _ _) rfl ⟨⟩ ?_
        (refine lwp_region hC ⟨[], [], []⟩ (told0 _ _) rfl ?_ ?_; rotate_left 1)
        · repeat first | refine lwp_seq fun K hK => ?_ | ((with_reducible refine gA ?_); apply_assumption -exfalso -symm) | refine gB ?_ | refine gC ?_ | refine gD ?_ | refine gE ?_ | refine gF rfl ?_ | refine gG rfl ?_ | refine gH ?_ | refine gI ?_ | refine gJ ?_ | refine gK ?_ | refine gL ?_ | refine lwp_region hC ⟨[], [], []⟩ (told0 _ _) rfl ⟨⟩ ?_ | refine lwp_region hC ⟨[], [], []⟩ (told0 _ _) rfl (by exact sd) ?_
          (refine lwp_cond hC rfl (by first | exact ⟨⟩ | exact sd) (fun hb => ?_) (fun hb => ?_) <;> (try simp only [decide_eq_true_eq, decide_eq_false_iff_not, Bool.not_eq_true', Bool.not_eq_false', ne_eq, Decidable.not_not] at hb))
          · have hR : guessS m s n l (-1, -1) = plc m (prAt l k) + n - cnt s (prAt l k) := by
              have gg : ∀ x y z w : Bool, (bif bif x then y else false then true else bif z then w else false) = true → (x = true ∧ y = true) ∨ (z = true ∧ w = true) := by decide
              rcases gg _ _ _ _ hb with ⟨g1, g2⟩ | ⟨g1, g2⟩
              · have g1' := of_decide_eq_true g1
                obtain rfl : k = 0 := by omega
                exact guess_first h0 (of_decide_eq_true g2)
              · have g1' := of_decide_eq_true g1
                rw [hf]
                exact guess_last (by omega) (of_decide_eq_true g2)
            rw [hR]
            repeat first | refine lwp_seq fun K hK => ?_ | ((with_reducible refine gA ?_); apply_assumption -exfalso -symm) | refine gB ?_ | refine gC ?_ | refine gD ?_ | refine gE ?_ | refine gF rfl ?_ | refine gG rfl ?_ | refine gH ?_ | refine gI ?_ | refine gJ ?_ | refine gK ?_ | refine gL ?_ | refine lwp_region hC ⟨[], [], []⟩ (told0 _ _) rfl ⟨⟩ ?_ | refine lwp_region hC ⟨[], [], []⟩ (told0 _ _) rfl (by exact sd) ?_
            all_goals first | exact sd | skip
            (refine end_intro (by first | exact .inr rfl | exact .inl rfl) [] rfl ?_)
            exact ⟨rfl, trivial⟩
          · have hge : cnt s (prAt l k) ≤ n ∧ k + 1 < l.length ∧ (k = 0 → cnt s (prAt l k) < n) := by
              have gg : ∀ x y z w : Bool, (bif bif x then y else false then true else bif z then w else false) = false → (x = true → y = false) ∧ (z = true → w = false) := by decide
              obtain ⟨g1, g2⟩ := gg _ _ _ _ hb
              rw [decide_eq_true_iff, decide_eq_false_iff_not] at g1 g2
              have g1' : (k : Int) = 0 → ¬ n ≤ cnt s (prAt l k) := g1
              have g2' : (k : Int) = (l.length : Int) - 1 → ¬ cnt s (prAt l k) ≤ n := g2
              by_cases g3 : k = 0
              · have := g1' (by omega)
                refine ⟨by omega, ?_, fun _ => by omega⟩
                by_cases g4 : (k : Int) = (l.length : Int) - 1
                · have := g2' g4; omega
                · omega
              · have := hin g3
                refine ⟨this, ?_, fun h => absurd h g3⟩
                by_cases g4 : (k : Int) = (l.length : Int) - 1
                · have := g2' g4; omega
                · omega
            obtain ⟨hge1, hge2, hge3⟩ := hge
            clear hb
            obtain ⟨⟨i5, i6⟩, i7, i8⟩ := h.p (k + 1) hge2
            have c3 := cnt_bound h.ps (prAt l (k + 1))
            have c4 := plc_bound h.pm (prAt l (k + 1))
            have d3 := c3
            have d4 := c4
            unfold cnt thAt at d3
            unfold plc thAt at d4
            have e2 : ((k : Int) + 1).toNat = k + 1 := by omega
            repeat first | refine lwp_seq fun K hK => ?_ | ((with_reducible refine gA ?_); apply_assumption -exfalso -symm) | refine gB ?_ | refine gC ?_ | refine gD ?_ | refine gE ?_ | refine gF rfl ?_ | refine gG rfl ?_ | refine gH ?_ | refine gI ?_ | refine gJ ?_ | refine gK ?_ | refine gL ?_ | refine lwp_region hC ⟨[], [], []⟩ (told0 _ _) rfl ⟨⟩ ?_
            (refine lwp_region hC ⟨[], [], []⟩ (told0 _ _) rfl ?_ ?_; rotate_left 1)
            · repeat first | refine lwp_seq fun K hK => ?_ | ((with_reducible refine gA ?_); apply_assumption -exfalso -symm) | refine gB ?_ | refine gC ?_ | refine gD ?_ | refine gE ?_ | refine gF rfl ?_ | refine gG rfl ?_ | refine gH ?_ | refine gI ?_ | refine gJ ?_ | refine gK ?_ | refine gL ?_ | refine lwp_region hC ⟨[], [], []⟩ (told0 _ _) rfl ⟨⟩ ?_ | refine lwp_region hC ⟨[], [], []⟩ (told0 _ _) rfl (by exact sd) ?_
              (refine lwp_cond hC rfl (by first | exact ⟨⟩ | exact sd) (fun hb => ?_) (fun hb => ?_) <;> (try simp only [decide_eq_true_eq, decide_eq_false_iff_not, Bool.not_eq_true', Bool.not_eq_false', ne_eq, Decidable.not_not] at hb))
              · exfalso
                have gg : ∀ x y : Bool, (bif x then true else y) = true → x = true ∨ y = true := by decide
                rcases gg _ _ hb with g1 | g1
                · have g1' : n < cnt s (prAt l k) := of_decide_eq_true g1
                  omega
                · have := of_decide_eq_true g1
                  omega
              · clear hb
                repeat first | refine lwp_seq fun K hK => ?_ | ((with_reducible refine gA ?_); apply_assumption -exfalso -symm) | refine gB ?_ | refine gC ?_ | refine gD ?_ | refine gE ?_ | refine gF rfl ?_ | refine gG rfl ?_ | refine gH ?_ | refine gI ?_ | refine gJ ?_ | refine gK ?_ | refine gL ?_ | refine lwp_region hC ⟨[], [], []⟩ (told0 _ _) rfl ⟨⟩ ?_
                (refine lwp_drawn2 hC (by rw [hP]; exact mixed) ⟨[], [], []⟩ (told0 _ _) [0, 1, 0, 0, 8, 28, 60, 124, 255, 511, 1023, 0, 2048, 0, 0, 16384, 57344, 122880, 253952, 522240, 1046528, 2095104, 2047, 8388607] 24 0 rfl ?_ ?_; rotate_left 1)
                · rw [e2]
                  repeat first | refine lwp_seq fun K hK => ?_ | ((with_reducible refine gA ?_); apply_assumption -exfalso -symm) | refine gB ?_ | refine gC ?_ | refine gD ?_ | refine gE ?_ | refine gF rfl ?_ | refine gG rfl ?_ | refine gH ?_ | refine gI ?_ | refine gJ ?_ | refine gK ?_ | refine gL ?_ | refine lwp_region hC ⟨[], [], []⟩ (told0 _ _) rfl ⟨⟩ ?_ | refine lwp_region hC ⟨[], [], []⟩ (told0 _ _) rfl (by exact sd) ?_
                  (refine lwp_cond hC rfl (by first | exact ⟨⟩ | exact sd) (fun hb => ?_) (fun hb => ?_) <;> (try simp only [decide_eq_true_eq, decide_eq_false_iff_not, Bool.not_eq_true', Bool.not_eq_false', ne_eq, Decidable.not_not] at hb))
                  · have hR : guessS m s n l (-1, -1) = stepS m s n (prAt l k) (prAt l (k + 1)) := by
                      rw [hf]
                      exact guess_mid h hge2 hge1 hb fun e => hge3 (ha e)
                    rw [hR]
                    have hst := step_small h hn (i := k) (j := k + 1) (by omega) hge2
                    have hnn : 0 ≤ (n - cnt s (prAt l k)) * (plc m (prAt l (k + 1)) - plc m (prAt l k)) := Int.mul_nonneg (by omega) (by have := h.upm k (k + 1) (by omega) hge2; omega)
                    have hrb := round_bound hst.1 hst.2
                    repeat first | refine lwp_seq fun K hK => ?_ | ((with_reducible refine gA ?_); apply_assumption -exfalso -symm) | refine gB ?_ | refine gC ?_ | refine gD ?_ | refine gE ?_ | refine gF rfl ?_ | refine gG rfl ?_ | refine gH ?_ | refine gI ?_ | refine gJ ?_ | refine gK ?_ | refine gL ?_ | refine lwp_region hC ⟨[], [], []⟩ (told0 _ _) rfl ⟨⟩ ?_
                    (refine lwp_region hC ⟨[], [], [(11, Round_i ((n - cnt s (prAt l k)) * (plc m (prAt l (k + 1)) - plc m (prAt l k))) (cnt s (prAt l (k + 1)) - cnt s (prAt l k)))]⟩ (told1 _ (by rw [hP]; exact (calls_cons (Round_s _ _ ⟨hnn, hst.1.2⟩ hst.2) calls_nil))) rfl ?_ ?_; rotate_left 1)
                    · repeat first | refine lwp_seq fun K hK => ?_ | ((with_reducible refine gA ?_); apply_assumption -exfalso -symm) | refine gB ?_ | refine gC ?_ | refine gD ?_ | refine gE ?_ | refine gF rfl ?_ | refine gG rfl ?_ | refine gH ?_ | refine gI ?_ | refine gJ ?_ | refine gK ?_ | refine gL ?_ | refine lwp_region hC ⟨[], [], []⟩ (told0 _ _) rfl ⟨⟩ ?_ | refine lwp_region hC ⟨[], [], []⟩ (told0 _ _) rfl (by exact sd) ?_
                      (refine end_intro (by first | exact .inr rfl | exact .inl rfl) [] rfl ?_)
                      exact ⟨rfl, trivial⟩
                    · simp only [cnt, plc, thAt, prAt] at hst hrb c1 c2 c3 c4 ⊢
                      exact sd
                  · have hb' : ¬ n < cnt s (prAt l (k + 1)) := hb
                    repeat first | refine lwp_seq fun K hK => ?_ | ((with_reducible refine gA ?_); apply_assumption -exfalso -symm) | refine gB ?_ | refine gC ?_ | refine gD ?_ | refine gE ?_ | refine gF rfl ?_ | refine gG rfl ?_ | refine gH ?_ | refine gI ?_ | refine gJ ?_ | refine gK ?_ | refine gL ?_ | refine lwp_region hC ⟨[], [], []⟩ (told0 _ _) rfl ⟨⟩ ?_ | refine lwp_region hC ⟨[], [], []⟩ (told0 _ _) rfl (by exact sd) ?_
                    refine gA ⟨k + 1, ?_, ?_, sub_intro hm [(0, some 0), (1, some 1), (2, some 2), (3, some 3)] rfl ?_⟩
                    · refine ⟨hge2, fun _ => by omega, prAt l k, fun e => absurd e (lastPr_not h hk), ?_⟩
                      rw [hf]
                      exact guess_next hk (by have := h.up k (k + 1) (by omega) hge2; omega)
                    · omega
                    · exact sd
                · rw [e2]
                  exact sd
            · generalize decide (n < (s.getD (l.getD k (0, 0)).1.toNat thD).place) = x
              cases x
              all_goals
                exact sd
        · generalize decide ((k : Int) = 0) = x
          generalize decide (n ≤ (s.getD (l.getD k (0, 0)).1.toNat thD).place) = y
          generalize decide ((k : Int) = (l.length : Int) - 1) = z
          cases x <;> cases y <;> cases z
          all_goals
            exact sd
      · exact sd
    · exact absurd hb (by omega)

end Go.Proofs.YtoopgdchiljmiaaGreatDoor

namespace Go.Proofs.YtoopgdchiljmiaaGreatDoor
open Go.RowKit Go.Sym

def PGuess_i (m s : List Th) (n : Int) (l : List (Int × Int)) (σ : Ren) : Inst := { f := 115, hin := costIn m s l, args := [rdA m s, .sl 2 l.length, i64 n], hout := [], ret := i64 (guessS m s n l (-1, -1)), σ := σ }
set_option maxRecDepth 20000 in
set_option maxHeartbeats 4000000 in
theorem PGuess_s (m s : List Th) (n : Int) (l : List (Int × Int)) (σ : Ren) (h : Good m s l) (hn : 0 ≤ n ∧ n ≤ 100000000) (h0 : 0 < l.length) : (PGuess_i m s n l σ).ok Tryz.prog := by
  have hl64 := h.hl
  have hm64 := h.hm
  have hs64 := h.hs
  unfold PGuess_i Inst.ok; dsimp only; refine spec_of_body (tys := tys) 3 Tryz.func115 (by kernel_rfl) rfl tys_ok rfl (Nat.le_of_ble_eq_true rfl) (fun _ _ h => (by cases h)) fun F hP hm hC hrd => ?_; conv => whnf
  repeat first | refine lwp_seq fun K hK => ?_ | ((with_reducible refine gA ?_); apply_assumption -exfalso -symm) | refine gB ?_ | refine gC ?_ | refine gD ?_ | refine gE ?_ | refine gF rfl ?_ | refine gG rfl ?_ | refine gH ?_ | refine gI ?_ | refine gJ ?_ | refine gK ?_ | refine gL ?_ | refine lwp_region hC ⟨[], [], []⟩ (told0 _ _) rfl ⟨⟩ ?_ | refine lwp_region hC ⟨[], [], []⟩ (told0 _ _) rfl (by exact sd) ?_
  refine lwp_loop (fun k : Nat => ⟨[(17, i64 k), (16, i64 l.length), (15, .sl 2 l.length), (2, i64 n), (3, .ptr 3 0 0 0), (7, .ptr 4 0 0 0)], [(4, .blk 104 [i64 (lastPr l k).1, i64 (lastPr l k).2]), (3, .blk 38 [.sl 0 m.length, .sl 1 s.length]), (0, .ro m.length 2 (thC m)), (1, .ro s.length 2 (thC s)), (2, .ro l.length 2 (prC l))], 5⟩) (fun k => k ≤ l.length ∧ guessS m s n l (-1, -1) = guessS m s n (l.drop k) (lastPr l k) ∧ ∀ j, k = j + 1 → cnt s (prAt l j) < n) (fun k => l.length - k) 0 ⟨?_, sub_intro hm [(0, some 0), (1, some 1), (2, some 2), (3, some 3), (4, some 4)] rfl ?_⟩ ?_
  · exact ⟨Nat.zero_le _, rfl, fun j hj => by omega⟩
  · exact sd
  · rintro k ⟨hk, hf, hlt⟩
    have e1 : (k : Int).toNat = k := Int.toNat_natCast k
    repeat first | refine lwp_seq fun K hK => ?_ | ((with_reducible refine gA ?_); apply_assumption -exfalso -symm) | refine gB ?_ | refine gC ?_ | refine gD ?_ | refine gE ?_ | refine gF rfl ?_ | refine gG rfl ?_ | refine gH ?_ | refine gI ?_ | refine gJ ?_ | refine gK ?_ | refine gL ?_ | refine lwp_region hC ⟨[], [], []⟩ (told0 _ _) rfl ⟨⟩ ?_ | refine lwp_region hC ⟨[], [], []⟩ (told0 _ _) rfl (by exact sd) ?_
    (refine lwp_cond hC rfl (by first | exact ⟨⟩ | exact sd) (fun hb => ?_) (fun hb => ?_) <;> (try simp only [decide_eq_true_eq, decide_eq_false_iff_not, Bool.not_eq_true', Bool.not_eq_false', ne_eq, Decidable.not_not] at hb))
    · have hkl : k < l.length := by omega
      obtain ⟨⟨i1, i2⟩, i3, i4⟩ := h.p k hkl
      have c1 := cnt_bound h.ps (prAt l k)
      have c2 := plc_bound h.pm (prAt l k)
      have d1 := c1
      have d2 := c2
      unfold cnt thAt at d1
      unfold plc thAt at d2
      have hD := guessS_drop m s n l k hkl (lastPr l k)
      repeat first | refine lwp_seq fun K hK => ?_ | ((with_reducible refine gA ?_); apply_assumption -exfalso -symm) | refine gB ?_ | refine gC ?_ | refine gD ?_ | refine gE ?_ | refine gF rfl ?_ | refine gG rfl ?_ | refine gH ?_ | refine gI ?_ | refine gJ ?_ | refine gK ?_ | refine gL ?_ | refine lwp_region hC ⟨[], [], []⟩ (told0 _ _) rfl ⟨⟩ ?_ | refine lwp_region hC ⟨[], [], []⟩ (told0 _ _) rfl (by exact sd) ?_
      rw [e1]
      (refine lwp_drawn hC (by rw [hP]; exact mixed) ⟨[], [], []⟩ (told0 _ _) [0, 1, 0, 4, 15, 31, 63, 0, 128, 0, 512, 1920, 3968, 8064, 127, 32767] 15 rfl ?_ ?_; rotate_left 1)
      · repeat first | refine lwp_seq fun K hK => ?_ | ((with_reducible refine gA ?_); apply_assumption -exfalso -symm) | refine gB ?_ | refine gC ?_ | refine gD ?_ | refine gE ?_ | refine gF rfl ?_ | refine gG rfl ?_ | refine gH ?_ | refine gI ?_ | refine gJ ?_ | refine gK ?_ | refine gL ?_ | refine lwp_region hC ⟨[], [], []⟩ (told0 _ _) rfl ⟨⟩ ?_ | refine lwp_region hC ⟨[], [], []⟩ (told0 _ _) rfl (by exact sd) ?_
        (refine lwp_cond hC rfl (by first | exact ⟨⟩ | exact sd) (fun hb => ?_) (fun hb => ?_) <;> (try simp only [decide_eq_true_eq, decide_eq_false_iff_not, Bool.not_eq_true', Bool.not_eq_false', ne_eq, Decidable.not_not] at hb))
        · have hb' : n > cnt s (prAt l k) := hb
          repeat first | refine lwp_seq fun K hK => ?_ | ((with_reducible refine gA ?_); apply_assumption -exfalso -symm) | refine gB ?_ | refine gC ?_ | refine gD ?_ | refine gE ?_ | refine gF rfl ?_ | refine gG rfl ?_ | refine gH ?_ | refine gI ?_ | refine gJ ?_ | refine gK ?_ | refine gL ?_ | refine lwp_region hC ⟨[], [], []⟩ (told0 _ _) rfl ⟨⟩ ?_ | refine lwp_region hC ⟨[], [], []⟩ (told0 _ _) rfl (by exact sd) ?_
          refine gA ⟨k + 1, ?_, ?_, sub_intro hm [(0, some 0), (1, some 1), (2, some 2), (3, some 3), (4, some 4)] rfl ?_⟩
          · refine ⟨by omega, ?_, fun j hj => ?_⟩
            · rw [hf, hD, if_pos hb']; rfl
            · obtain rfl : j = k := by omega
              exact hb'
          · omega
          · rw [show lastPr l (k + 1) = prAt l k from rfl]
            exact sd
        · have hb' : ¬ n > cnt s (prAt l k) := hb
          rw [if_neg hb'] at hD
          clear hb
          repeat first | refine lwp_seq fun K hK => ?_ | ((with_reducible refine gA ?_); apply_assumption -exfalso -symm) | refine gB ?_ | refine gC ?_ | refine gD ?_ | refine gE ?_ | refine gF rfl ?_ | refine gG rfl ?_ | refine gH ?_ | refine gI ?_ | refine gJ ?_ | refine gK ?_ | refine gL ?_ | refine lwp_region hC ⟨[], [], []⟩ (told0 _ _) rfl ⟨⟩ ?_
          (refine lwp_region hC ⟨[], [(6, custPair)], []⟩ ⟨(fun p hp => by rcases List.mem_cons.1 hp with rfl | hp; rw [hP]; exact custPair_ok; cases hp), (fun _ h => (by cases h))⟩ rfl ?_ ?_; rotate_left 1)
          · repeat first | refine lwp_seq fun K hK => ?_ | ((with_reducible refine gA ?_); apply_assumption -exfalso -symm) | refine gB ?_ | refine gC ?_ | refine gD ?_ | refine gE ?_ | refine gF rfl ?_ | refine gG rfl ?_ | refine gH ?_ | refine gI ?_ | refine gJ ?_ | refine gK ?_ | refine gL ?_ | refine lwp_region hC ⟨[], [], []⟩ (told0 _ _) rfl ⟨⟩ ?_ | refine lwp_region hC ⟨[], [], []⟩ (told0 _ _) rfl (by exact sd) ?_
            (refine lwp_cond hC rfl (by first | exact ⟨⟩ | exact sd) (fun hb => ?_) (fun hb => ?_) <;> (try simp only [decide_eq_true_eq, decide_eq_false_iff_not, Bool.not_eq_true', Bool.not_eq_false', ne_eq, Decidable.not_not] at hb))
            · have hR : guessS m s n l (-1, -1) = plc m (prAt l k) + n - cnt s (prAt l k) := by
                rw [hf, hD, if_pos ?_]
                have gg : ∀ x y z : Bool, (bif x then true else (y && z)) = true → x = true ∨ (y = true ∧ z = true) := by decide
                rcases gg _ _ _ hb with g1 | ⟨g1, g2⟩
                · exact .inl (of_decide_eq_true g1)
                · exact .inr (Prod.ext (by simpa using g1) (by simpa using g2))
              rw [hR]
              repeat first | refine lwp_seq fun K hK => ?_ | ((with_reducible refine gA ?_); apply_assumption -exfalso -symm) | refine gB ?_ | refine gC ?_ | refine gD ?_ | refine gE ?_ | refine gF rfl ?_ | refine gG rfl ?_ | refine gH ?_ | refine gI ?_ | refine gJ ?_ | refine gK ?_ | refine gL ?_ | refine lwp_region hC ⟨[], [], []⟩ (told0 _ _) rfl ⟨⟩ ?_ | refine lwp_region hC ⟨[], [], []⟩ (told0 _ _) rfl (by exact sd) ?_
              all_goals first | exact sd | skip
              (refine end_intro (by first | exact .inr rfl | exact .inl rfl) [] rfl ?_)
              exact ⟨rfl, trivial⟩
            · have gg : ∀ x y z : Bool, (bif x then true else (y && z)) = false → x = false ∧ ¬ (y = true ∧ z = true) := by decide
              obtain ⟨g1, g2⟩ := gg _ _ _ hb
              have g1' : ¬ n = cnt s (prAt l k) := of_decide_eq_false g1
              have g2' : lastPr l k ≠ (-1, -1) := fun e => g2 (by rw [e]; exact ⟨rfl, rfl⟩)
              have hR : guessS m s n l (-1, -1) = stepS m s n (lastPr l k) (prAt l k) := by
                rw [hf, hD, if_neg (fun e => by rcases e with e | e; exact g1' e; exact g2' e)]
              have hk0 : k ≠ 0 := fun e => g2' (by rw [e]; rfl)
              obtain ⟨j, rfl⟩ : ∃ j, k = j + 1 := ⟨k - 1, by omega⟩
              clear hb
              rw [show lastPr l (j + 1) = prAt l j from rfl] at hR ⊢
              obtain ⟨⟨i5, i6⟩, i7, i8⟩ := h.p j (by omega)
              have c3 := cnt_bound h.ps (prAt l j)
              have c4 := plc_bound h.pm (prAt l j)
              have hst := step_small h hn (i := j) (j := j + 1) (by omega) hkl
              have hrb := round_bound hst.1 hst.2
              have d3 := c3
              have d4 := c4
              unfold cnt thAt at d3
              unfold plc thAt at d4
              rw [hR]
              repeat first | refine lwp_seq fun K hK => ?_ | ((with_reducible refine gA ?_); apply_assumption -exfalso -symm) | refine gB ?_ | refine gC ?_ | refine gD ?_ | refine gE ?_ | refine gF rfl ?_ | refine gG rfl ?_ | refine gH ?_ | refine gI ?_ | refine gJ ?_ | refine gK ?_ | refine gL ?_ | refine lwp_region hC ⟨[], [], []⟩ (told0 _ _) rfl ⟨⟩ ?_
              (refine lwp_drawn hC (by rw [hP]; exact mixed) ⟨[], [], []⟩ (told0 _ _) [0, 1, 0, 4, 15, 31, 63, 0, 128, 0, 512, 1920, 3968, 8064, 127, 32767] 15 rfl ?_ ?_; rotate_left 1)
              · repeat first | refine lwp_seq fun K hK => ?_ | ((with_reducible refine gA ?_); apply_assumption -exfalso -symm) | refine gB ?_ | refine gC ?_ | refine gD ?_ | refine gE ?_ | refine gF rfl ?_ | refine gG rfl ?_ | refine gH ?_ | refine gI ?_ | refine gJ ?_ | refine gK ?_ | refine gL ?_ | refine lwp_region hC ⟨[], [], []⟩ (told0 _ _) rfl ⟨⟩ ?_
                (refine lwp_region hC ⟨[], [], [(11, Rounded_i ((n - cnt s (prAt l j)) * (plc m (prAt l (j + 1)) - plc m (prAt l j))) (cnt s (prAt l (j + 1)) - cnt s (prAt l j)))]⟩ (told1 _ (by rw [hP]; exact (calls_cons (Rounded_s _ _ hst.1 hst.2) calls_nil))) rfl ?_ ?_; rotate_left 1)
                · repeat first | refine lwp_seq fun K hK => ?_ | ((with_reducible refine gA ?_); apply_assumption -exfalso -symm) | refine gB ?_ | refine gC ?_ | refine gD ?_ | refine gE ?_ | refine gF rfl ?_ | refine gG rfl ?_ | refine gH ?_ | refine gI ?_ | refine gJ ?_ | refine gK ?_ | refine gL ?_ | refine lwp_region hC ⟨[], [], []⟩ (told0 _ _) rfl ⟨⟩ ?_ | refine lwp_region hC ⟨[], [], []⟩ (told0 _ _) rfl (by exact sd) ?_
                  (refine end_intro (by first | exact .inr rfl | exact .inl rfl) [] rfl ?_)
                  exact ⟨rfl, trivial⟩
                · simp only [cnt, plc, thAt, prAt] at hst hrb c1 c2 c3 c4 ⊢
                  exact sd
              · exact sd
          · generalize decide (n = (s.getD (l.getD k (0, 0)).1.toNat thD).place) = x
            cases x
            all_goals
              exact sd
      · exact sd
    · have hkl : k = l.length := by omega
      obtain ⟨j, rfl⟩ : ∃ j, k = j + 1 := ⟨k - 1, by omega⟩
      have hR : guessS m s n l (-1, -1) = plc m (prAt l j) + n - cnt s (prAt l j) := by
        rw [hf, List.drop_of_length_le (by omega)]; rfl
      rw [hR]
      obtain ⟨⟨i5, i6⟩, i7, i8⟩ := h.p j (by omega)
      have c3 := cnt_bound h.ps (prAt l j)
      have c4 := plc_bound h.pm (prAt l j)
      have d3 := c3
      have d4 := c4
      unfold cnt thAt at d3
      unfold plc thAt at d4
      rw [show lastPr l (j + 1) = prAt l j from rfl]
      repeat first | refine lwp_seq fun K hK => ?_ | ((with_reducible refine gA ?_); apply_assumption -exfalso -symm) | refine gB ?_ | refine gC ?_ | refine gD ?_ | refine gE ?_ | refine gF rfl ?_ | refine gG rfl ?_ | refine gH ?_ | refine gI ?_ | refine gJ ?_ | refine gK ?_ | refine gL ?_ | refine lwp_region hC ⟨[], [], []⟩ (told0 _ _) rfl ⟨⟩ ?_
      (refine lwp_drawn hC (by rw [hP]; exact mixed) ⟨[], [], []⟩ (told0 _ _) [0, 1, 0, 4, 15, 31, 63, 0, 255, 0, 512, 0, 2048, 7680, 15872, 32256, 65535, 131071] 16 rfl ?_ ?_; rotate_left 1)
      · repeat first | refine lwp_seq fun K hK => ?_ | ((with_reducible refine gA ?_); apply_assumption -exfalso -symm) | refine gB ?_ | refine gC ?_ | refine gD ?_ | refine gE ?_ | refine gF rfl ?_ | refine gG rfl ?_ | refine gH ?_ | refine gI ?_ | refine gJ ?_ | refine gK ?_ | refine gL ?_ | refine lwp_region hC ⟨[], [], []⟩ (told0 _ _) rfl ⟨⟩ ?_ | refine lwp_region hC ⟨[], [], []⟩ (told0 _ _) rfl (by exact sd) ?_
        (refine end_intro (by first | exact .inr rfl | exact .inl rfl) [] rfl ?_)
        first | exact ⟨rfl, trivial⟩ | exact ⟨hR, trivial⟩
      · exact sd

end Go.Proofs.YtoopgdchiljmiaaGreatDoor
