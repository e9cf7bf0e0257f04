/- Chapter 5: what an alignment costs, the reference's. -/
import Derived.Test.YtfmnfagcbehmdaaGreatDoorDa
import Derived.Test.YtfmnfagcbehmdaaGreatDoorDi
import Derived.Test.YtfmnfagcbehmdaaGreatDoorDg
set_option linter.unusedVariables false
set_option linter.unusedSimpArgs false
namespace Go.Proofs.YtfmnfagcbehmdaaGreatDoor
open Go.RowKit Go.Sym

def Step_i (m s : List Th) (c : Cs) (a b : Int × Int) (σ : Ren) : Inst := { f := 83, hin := rideIn m s, args := [rdA m s, csA c, prA a, prA b], hout := [], ret := i64 (grownS m s c a b), σ := σ }
set_option maxRecDepth 20000 in
theorem Step_s (m s : List Th) (c : Cs) (a b : Int × Int) (σ : Ren) (hc : csOk c) (hl : m.length ≤ 64 ∧ s.length ≤ 64) (hpm : placesOk m) (hps : placesOk s) (ha : inS m s a) (hb : inS m s b) : (Step_i m s c a b σ).ok Tryz.prog := by
  obtain ⟨⟨h1, h2⟩, h3, h4⟩ := ha
  obtain ⟨⟨h5, h6⟩, h7, h8⟩ := hb
  obtain ⟨hc1, hc2, hc3⟩ := hc
  have k1 := mul_small (b := b.1 - a.1 - 1) hc1 (by omega)
  have k2 := mul_small (b := b.2 - a.2 - 1) hc2 (by omega)
  have p1 := hpm a.2; have p2 := hpm b.2; have p3 := hps a.1; have p4 := hps b.1
  have eM : max ((thAt m b.2).place - (thAt m a.2).place - ((thAt s b.1).place - (thAt s a.1).place)) (0 - ((thAt m b.2).place - (thAt m a.2).place - ((thAt s b.1).place - (thAt s a.1).place))) = max ((thAt m b.2).place - (thAt m a.2).place - ((thAt s b.1).place - (thAt s a.1).place)) ((thAt s b.1).place - (thAt s a.1).place - ((thAt m b.2).place - (thAt m a.2).place)) := by
    congr 1; omega
  have k3 := mul_small (b := max ((thAt m b.2).place - (thAt m a.2).place - ((thAt s b.1).place - (thAt s a.1).place)) (0 - ((thAt m b.2).place - (thAt m a.2).place - ((thAt s b.1).place - (thAt s a.1).place)))) hc3 (by omega)
  have f1 : -1000000000 ≤ (thAt m b.2).place - (thAt m a.2).place - ((thAt s b.1).place - (thAt s a.1).place) ∧ (thAt m b.2).place - (thAt m a.2).place - ((thAt s b.1).place - (thAt s a.1).place) ≤ 1000000000 := by omega
  have k4 := k3
  unfold thAt at p1 p2 p3 p4 k3
  unfold Step_i grownS
  rw [← eM]
  clear eM
  unfold Inst.ok; dsimp only; refine spec_of_body (tys := tys) 2 Tryz.func83 (by kernel_rfl) rfl tys_ok rfl (Nat.le_of_ble_eq_true rfl) (fun _ _ h => (by cases h)) fun F hP hm hC hrd => ?_; conv => whnf
  repeat first | refine lwp_seq fun K hK => ?_ | ((with_reducible refine gA ?_); apply_assumption -exfalso -symm) | refine gB ?_ | refine gC ?_ | refine gD ?_ | refine gE ?_ | refine gF rfl ?_ | refine gG rfl ?_ | refine gH ?_ | refine gI ?_ | refine gJ ?_ | refine gK ?_ | refine gL ?_ | refine gM hC rfl ⟨⟩ ?_ | refine gM hC rfl (by exact sd) ?_
  (refine lwp_drawn hC (by rw [hP]; exact mixed) ⟨[], [], []⟩ (told0 _ _) [0, 1, 0, 4, 15, 31, 63, 0, 128, 0, 512, 1920, 3968, 8064, 16383, 32767] 14 rfl ?_ ?_; rotate_left 1)
  · repeat first | refine lwp_seq fun K hK => ?_ | ((with_reducible refine gA ?_); apply_assumption -exfalso -symm) | refine gB ?_ | refine gC ?_ | refine gD ?_ | refine gE ?_ | refine gF rfl ?_ | refine gG rfl ?_ | refine gH ?_ | refine gI ?_ | refine gJ ?_ | refine gK ?_ | refine gL ?_ | refine gM hC rfl ⟨⟩ ?_ | refine gM hC rfl (by exact sd) ?_
    (refine lwp_drawn hC (by rw [hP]; exact mixed) ⟨[], [], []⟩ (told0 _ _) [0, 1, 0, 4, 15, 31, 63, 0, 128, 0, 512, 1920, 3968, 8064, 16383, 32767] 14 rfl ?_ ?_; rotate_left 1)
    · repeat first | refine lwp_seq fun K hK => ?_ | ((with_reducible refine gA ?_); apply_assumption -exfalso -symm) | refine gB ?_ | refine gC ?_ | refine gD ?_ | refine gE ?_ | refine gF rfl ?_ | refine gG rfl ?_ | refine gH ?_ | refine gI ?_ | refine gJ ?_ | refine gK ?_ | refine gL ?_ | refine gM hC rfl ⟨⟩ ?_ | refine gM hC rfl (by exact sd) ?_
      (refine lwp_drawn2 hC (by rw [hP]; exact mixed) ⟨[], [], [(24, Abs_i ((thAt m b.2).place - (thAt m a.2).place - ((thAt s b.1).place - (thAt s a.1).place)))]⟩ (told1 _ (by rw [hP]; exact (calls_cons (Abs_s _ f1) calls_nil))) [0, 1, 0, 4, 0, 16, 60, 124, 255, 0, 512, 0, 2048, 0, 8192, 30720, 63488, 130560, 262143, 0, 524288, 0, 0, 6291456, 14680064, 33030144, 67108863, 134217727] 28 0 rfl ?_ ?_; rotate_left 1)
      · repeat first | refine lwp_seq fun K hK => ?_ | ((with_reducible refine gA ?_); apply_assumption -exfalso -symm) | refine gB ?_ | refine gC ?_ | refine gD ?_ | refine gE ?_ | refine gF rfl ?_ | refine gG rfl ?_ | refine gH ?_ | refine gI ?_ | refine gJ ?_ | refine gK ?_ | refine gL ?_ | refine gM hC rfl ⟨⟩ ?_ | refine gM hC rfl (by exact sd) ?_
        (refine end_intro (by first | exact .inr rfl | exact .inl rfl) [] rfl ?_)
        exact ⟨rfl, trivial⟩
      · exact sd
    · exact sd
  · exact sd

def RfCost_i (m s : List Th) (c : Cs) (l : List (Int × Int)) (σ : Ren) : Inst := { f := 75, hin := costIn m s l, args := [rdA m s, csA c, .sl 2 l.length], hout := [], ret := i64 (costS m s c l), σ := σ }
set_option maxRecDepth 20000 in
theorem RfCost_s (m s : List Th) (c : Cs) (l : List (Int × Int)) (σ : Ren) (h : Fit m s c l) : (RfCost_i m s c l σ).ok Tryz.prog := by
  have hs1 := h.hs
  have hl1 := h.hl
  have hm1 := h.hm
  have hc1 := h.hc.1
  have kk := mul_small (b := (s.length : Int)) h.hc.1 (by omega)
  unfold RfCost_i Inst.ok; dsimp only; refine spec_of_body (tys := tys) 3 Tryz.func75 (by kernel_rfl) rfl tys_ok rfl (Nat.le_of_ble_eq_true rfl) (fun _ _ h => (by cases h)) fun F hP hm hC hrd => ?_; conv => whnf
  repeat first | refine lwp_seq fun K hK => ?_ | ((with_reducible refine gA ?_); apply_assumption -exfalso -symm) | refine gB ?_ | refine gC ?_ | refine gD ?_ | refine gE ?_ | refine gF rfl ?_ | refine gG rfl ?_ | refine gH ?_ | refine gI ?_ | refine gJ ?_ | refine gK ?_ | refine gL ?_ | refine gM hC rfl ⟨⟩ ?_ | refine gM hC rfl (by exact sd) ?_
  (refine lwp_cond hC rfl (by first | exact ⟨⟩ | exact sd) (fun hb => ?_) (fun hb => ?_) <;> (try simp only [decide_eq_true_eq, decide_eq_false_iff_not, Bool.not_eq_true', Bool.not_eq_false', ne_eq, Decidable.not_not] at hb))
  · repeat first | refine lwp_seq fun K hK => ?_ | ((with_reducible refine gA ?_); apply_assumption -exfalso -symm) | refine gB ?_ | refine gC ?_ | refine gD ?_ | refine gE ?_ | refine gF rfl ?_ | refine gG rfl ?_ | refine gH ?_ | refine gI ?_ | refine gJ ?_ | refine gK ?_ | refine gL ?_ | refine gM hC rfl ⟨⟩ ?_ | refine gM hC rfl (by exact sd) ?_
    all_goals first | exact sd | skip
    (refine end_intro (by first | exact .inr rfl | exact .inl rfl) [] rfl ?_)
    refine ⟨?_, trivial⟩
    show costS m s c l = c.missed * (s.length : Int)
    unfold costS
    rw [if_pos (by omega)]
  · have h00 := h.p 0 (by omega)
    have h01 := h.p ((l.length : Int) - 1).toNat (by omega)
    obtain ⟨⟨e1, e2⟩, e3, e4⟩ := endS_small h (by omega)
    unfold prAt at e1 e2 e3 e4 h00 h01
    obtain ⟨⟨q1, q2⟩, _⟩ := h00
    obtain ⟨⟨q3, q4⟩, _⟩ := h01
    repeat first | refine lwp_seq fun K hK => ?_ | ((with_reducible refine gA ?_); apply_assumption -exfalso -symm) | refine gB ?_ | refine gC ?_ | refine gD ?_ | refine gE ?_ | refine gF rfl ?_ | refine gG rfl ?_ | refine gH ?_ | refine gI ?_ | refine gJ ?_ | refine gK ?_ | refine gL ?_ | refine gM hC rfl ⟨⟩ ?_ | refine gM hC rfl (by exact sd) ?_
    (refine lwp_drawn2 hC (by rw [hP]; exact mixed) ⟨[], [], []⟩ (told0 _ _) [0, 1, 0, 4, 12, 28, 63, 0, 128, 0, 512, 1536, 3584, 0, 0, 16384, 49152, 122880, 253952, 516096, 1048064, 2097024, 4194303, 8388607] 24 0 rfl ?_ ?_; rotate_left 1)
    · repeat first | refine lwp_seq fun K hK => ?_ | ((with_reducible refine gA ?_); apply_assumption -exfalso -symm) | refine gB ?_ | refine gC ?_ | refine gD ?_ | refine gE ?_ | refine gF rfl ?_ | refine gG rfl ?_ | refine gH ?_ | refine gI ?_ | refine gJ ?_ | refine gK ?_ | refine gL ?_ | refine gM hC rfl ⟨⟩ ?_ | refine gM hC rfl (by exact sd) ?_
      refine lwp_loop (fun k : Nat => ⟨[(8, i64 (k + 1)), (7, i64 (endS' s c l + growS m s c l k)), (2, .sl 2 l.length), (3, .ptr 3 0 0 0), (4, .ptr 4 0 0 0)], [(4, .blk 27 [i64 c.missed, i64 c.unseen, i64 c.stretch]), (3, .blk 25 [.sl 0 m.length, .sl 1 s.length]), (0, .ro m.length 2 (thC m)), (1, .ro s.length 2 (thC s)), (2, .ro l.length 2 (prC l))], 5⟩) (fun k => k ≤ l.length - 1) (fun k => l.length - k) 0 ⟨?_, sub_intro hm [(0, some 0), (1, some 1), (2, some 2), (3, some 3), (4, some 4)] rfl ?_⟩ ?_
      · exact Nat.zero_le _
      · unfold endS' growS prAt
        exact sd
      · rintro k hk
        repeat first | refine lwp_seq fun K hK => ?_ | ((with_reducible refine gA ?_); apply_assumption -exfalso -symm) | refine gB ?_ | refine gC ?_ | refine gD ?_ | refine gE ?_ | refine gF rfl ?_ | refine gG rfl ?_ | refine gH ?_ | refine gI ?_ | refine gJ ?_ | refine gK ?_ | refine gL ?_ | refine gM hC rfl ⟨⟩ ?_ | refine gM hC rfl (by exact sd) ?_
        (refine lwp_cond hC rfl (by first | exact ⟨⟩ | exact sd) (fun hb => ?_) (fun hb => ?_) <;> (try simp only [decide_eq_true_eq, decide_eq_false_iff_not, Bool.not_eq_true', Bool.not_eq_false', ne_eq, Decidable.not_not] at hb))
        · have g0 := endS_small h (by omega)
          have g1 := growS_small h k (by omega)
          have g2 := grownS_small h.hc ⟨h.hm, h.hs⟩ h.pm h.ps (h.p ((k : Int) + 1 - 1).toNat (by omega)) (h.p ((k : Int) + 1).toNat (by omega))
          repeat first | refine lwp_seq fun K hK => ?_ | ((with_reducible refine gA ?_); apply_assumption -exfalso -symm) | refine gB ?_ | refine gC ?_ | refine gD ?_ | refine gE ?_ | refine gF rfl ?_ | refine gG rfl ?_ | refine gH ?_ | refine gI ?_ | refine gJ ?_ | refine gK ?_ | refine gL ?_ | refine gM hC rfl ⟨⟩ ?_ | refine gM hC rfl (by exact sd) ?_
          (refine lwp_drawn hC (by rw [hP]; exact mixed) ⟨[], [], [(12, Step_i m s c (prAt l ((k : Int) + 1 - 1).toNat) (prAt l ((k : Int) + 1).toNat) [(0, some 0), (1, some 1)])]⟩ (told1 _ (by rw [hP]; exact (calls_cons (Step_s _ _ _ _ _ _ h.hc ⟨h.hm, h.hs⟩ h.pm h.ps (h.p _ (by omega)) (h.p _ (by omega))) calls_nil))) [0, 0, 0, 0, 0, 16, 56, 120, 0, 0, 768, 1792, 4094, 8191, 16383] 13 rfl ?_ ?_; rotate_left 1)
          · repeat first | refine lwp_seq fun K hK => ?_ | ((with_reducible refine gA ?_); apply_assumption -exfalso -symm) | refine gB ?_ | refine gC ?_ | refine gD ?_ | refine gE ?_ | refine gF rfl ?_ | refine gG rfl ?_ | refine gH ?_ | refine gI ?_ | refine gJ ?_ | refine gK ?_ | refine gL ?_ | refine gM hC rfl ⟨⟩ ?_ | refine gM hC rfl (by exact sd) ?_
            refine gA ⟨k + 1, ?_, ?_, sub_intro hm [(0, some 0), (1, some 1), (2, some 2), (3, some 3), (4, some 4)] rfl ?_⟩
            · omega
            · omega
            · have e5 : ((k : Int) + 1).toNat = k + 1 := by omega
              have e6 : ((k : Int) + 1 - 1).toNat = k := by omega
              rw [e5, e6]
              simp only [growS]
              exact sd
          · unfold endS'
            exact sd
        · repeat first | refine lwp_seq fun K hK => ?_ | ((with_reducible refine gA ?_); apply_assumption -exfalso -symm) | refine gB ?_ | refine gC ?_ | refine gD ?_ | refine gE ?_ | refine gF rfl ?_ | refine gG rfl ?_ | refine gH ?_ | refine gI ?_ | refine gJ ?_ | refine gK ?_ | refine gL ?_ | refine gM hC rfl ⟨⟩ ?_ | refine gM hC rfl (by exact sd) ?_
          (refine end_intro (by first | exact .inr rfl | exact .inl rfl) [] rfl ?_)
          refine ⟨?_, trivial⟩
          obtain rfl : k = l.length - 1 := by omega
          show costS m s c l = endS' s c l + growS m s c l (l.length - 1)
          unfold costS
          rw [if_neg (by omega)]
    · exact sd

end Go.Proofs.YtfmnfagcbehmdaaGreatDoor
