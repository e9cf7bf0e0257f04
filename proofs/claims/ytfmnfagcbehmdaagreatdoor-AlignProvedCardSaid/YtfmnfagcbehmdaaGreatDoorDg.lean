/- Chapter 5: what an alignment costs, the program's. -/
import Derived.Test.YtfmnfagcbehmdaaGreatDoorDf
set_option linter.unusedVariables false
set_option linter.unusedSimpArgs false
namespace Go.Proofs.YtfmnfagcbehmdaaGreatDoor
open Go.RowKit Go.Sym

def growS (m s : List Th) (c : Cs) (l : List (Int × Int)) : Nat → Int
  | 0 => 0
  | k + 1 => growS m s c l k + grownS m s c (prAt l k) (prAt l (k + 1))
def endS' (s : List Th) (c : Cs) (l : List (Int × Int)) : Int := c.missed * (prAt l 0).1 + c.missed * (s.length - 1 - (prAt l ((l.length : Int) - 1).toNat).1)
def costS (m s : List Th) (c : Cs) (l : List (Int × Int)) : Int := if l.length = 0 then c.missed * s.length else endS' s c l + growS m s c l (l.length - 1)
structure Fit (m s : List Th) (c : Cs) (l : List (Int × Int)) : Prop where
  hc : csOk c
  hm : m.length ≤ 64
  hs : s.length ≤ 64
  hl : l.length ≤ 64
  pm : placesOk m
  ps : placesOk s
  p : ∀ i, i < l.length → inS m s (prAt l i)
theorem grownS_small {m s : List Th} {c : Cs} {a b : Int × Int} (hc : csOk c) (hl : m.length ≤ 64 ∧ s.length ≤ 64) (hpm : placesOk m) (hps : placesOk s) (ha : inS m s a) (hb : inS m s b) : -12000000000000 ≤ grownS m s c a b ∧ grownS m s c a b ≤ 12000000000000 := by
  obtain ⟨⟨h1, h2⟩, h3, h4⟩ := ha
  obtain ⟨⟨h5, h6⟩, h7, h8⟩ := hb
  obtain ⟨hc1, hc2, hc3⟩ := hc
  have k1 := mul_small (b := b.1 - a.1 - 1) hc1 (by omega)
  have k2 := mul_small (b := b.2 - a.2 - 1) hc2 (by omega)
  have p1 := hpm a.2; have p2 := hpm b.2; have p3 := hps a.1; have p4 := hps b.1
  have k3 := mul_small (b := max ((thAt m b.2).place - (thAt m a.2).place - ((thAt s b.1).place - (thAt s a.1).place)) ((thAt s b.1).place - (thAt s a.1).place - ((thAt m b.2).place - (thAt m a.2).place))) hc3 (by omega)
  unfold grownS
  omega
theorem growS_small {m s : List Th} {c : Cs} {l : List (Int × Int)} (h : Fit m s c l) : ∀ k : Nat, k < l.length → -12000000000000 * (k : Int) ≤ growS m s c l k ∧ growS m s c l k ≤ 12000000000000 * (k : Int)
  | 0, _ => by simp [growS]
  | k + 1, hk => by
    have h1 := growS_small h k (by omega)
    have h2 := grownS_small h.hc ⟨h.hm, h.hs⟩ h.pm h.ps (h.p k (by omega)) (h.p (k + 1) hk)
    simp only [growS]
    omega
theorem endS_small {m s : List Th} {c : Cs} {l : List (Int × Int)} (h : Fit m s c l) (hl : 0 < l.length) : (-4000000000000 ≤ c.missed * (prAt l 0).1 ∧ c.missed * (prAt l 0).1 ≤ 4000000000000) ∧ -4000000000000 ≤ c.missed * (s.length - 1 - (prAt l ((l.length : Int) - 1).toNat).1) ∧ c.missed * (s.length - 1 - (prAt l ((l.length : Int) - 1).toNat).1) ≤ 4000000000000 := by
  obtain ⟨⟨h1, h2⟩, _⟩ := h.p 0 hl
  obtain ⟨⟨h3, h4⟩, _⟩ := h.p ((l.length : Int) - 1).toNat (by omega)
  have := h.hs
  exact ⟨mul_small h.hc.1 (by omega), mul_small h.hc.1 (by omega)⟩

def RCost_i (m s : List Th) (c : Cs) (l : List (Int × Int)) (σ : Ren) : Inst := { f := 86, hin := costIn m s l, args := [rdA m s, csA c, .sl 2 l.length], hout := [], ret := i64 (costS m s c l), σ := σ }
set_option maxRecDepth 20000 in
theorem RCost_s (m s : List Th) (c : Cs) (l : List (Int × Int)) (σ : Ren) (h : Fit m s c l) : (RCost_i m s c l σ).ok Tryz.prog := by
  have hs1 := h.hs
  have hl1 := h.hl
  have hm1 := h.hm
  have hc1 := h.hc.1
  have kk := mul_small (b := (s.length : Int)) h.hc.1 (by omega)
  unfold RCost_i Inst.ok; dsimp only; refine spec_of_body (tys := tys) 3 Tryz.func86 (by kernel_rfl) rfl tys_ok rfl (Nat.le_of_ble_eq_true rfl) (fun _ _ h => (by cases h)) fun F hP hm hC hrd => ?_; conv => whnf
  repeat first | refine lwp_seq fun K hK => ?_ | ((with_reducible refine gA ?_); apply_assumption -exfalso -symm) | refine gB ?_ | refine gC ?_ | refine gD ?_ | refine gE ?_ | refine gF rfl ?_ | refine gG rfl ?_ | refine gH ?_ | refine gI ?_ | refine gJ ?_ | refine gK ?_ | refine gL ?_ | refine gM hC rfl ⟨⟩ ?_ | refine gM hC rfl (by exact sd) ?_
  (refine lwp_cond hC rfl (by first | exact ⟨⟩ | exact sd) (fun hb => ?_) (fun hb => ?_) <;> (try simp only [decide_eq_true_eq, decide_eq_false_iff_not, Bool.not_eq_true', Bool.not_eq_false', ne_eq, Decidable.not_not] at hb))
  · repeat first | refine lwp_seq fun K hK => ?_ | ((with_reducible refine gA ?_); apply_assumption -exfalso -symm) | refine gB ?_ | refine gC ?_ | refine gD ?_ | refine gE ?_ | refine gF rfl ?_ | refine gG rfl ?_ | refine gH ?_ | refine gI ?_ | refine gJ ?_ | refine gK ?_ | refine gL ?_ | refine gM hC rfl ⟨⟩ ?_ | refine gM hC rfl (by exact sd) ?_
    all_goals first | exact sd | skip
    (refine end_intro (by first | exact .inr rfl | exact .inl rfl) [] rfl ?_)
    refine ⟨?_, trivial⟩
    show costS m s c l = c.missed * (s.length : Int)
    unfold costS
    rw [if_pos (by omega)]
  · obtain ⟨⟨e1, e2⟩, e3, e4⟩ := endS_small h (by omega)
    repeat first | refine lwp_seq fun K hK => ?_ | ((with_reducible refine gA ?_); apply_assumption -exfalso -symm) | refine gB ?_ | refine gC ?_ | refine gD ?_ | refine gE ?_ | refine gF rfl ?_ | refine gG rfl ?_ | refine gH ?_ | refine gI ?_ | refine gJ ?_ | refine gK ?_ | refine gL ?_ | refine gM hC rfl ⟨⟩ ?_ | refine gM hC rfl (by exact sd) ?_
    (refine lwp_drawn hC (by rw [hP]; exact mixed) ⟨[], [], [(11, Ends_i m s c (prAt l 0) (prAt l ((l.length : Int) - 1).toNat) [(0, some 0), (1, some 1)])]⟩ (told1 _ (by rw [hP]; exact (calls_cons (Ends_s _ _ _ _ _ _ h.hc h.hs (h.p 0 (by omega)) (h.p _ (by omega))) calls_nil))) [0, 0, 0, 4, 12, 0, 0, 64, 192, 480, 992, 2047, 0, 8191] 13 rfl ?_ ?_; rotate_left 1)
    · repeat first | refine lwp_seq fun K hK => ?_ | ((with_reducible refine gA ?_); apply_assumption -exfalso -symm) | refine gB ?_ | refine gC ?_ | refine gD ?_ | refine gE ?_ | refine gF rfl ?_ | refine gG rfl ?_ | refine gH ?_ | refine gI ?_ | refine gJ ?_ | refine gK ?_ | refine gL ?_ | refine gM hC rfl ⟨⟩ ?_ | refine gM hC rfl (by exact sd) ?_
      refine lwp_loop (fun k : Nat => ⟨[(39, i64 k), (38, i64 (l.length - 1)), (8, i64 (endS' s c l + growS m s c l k)), (2, .sl 2 l.length), (3, .ptr 3 0 0 0), (4, .ptr 4 0 0 0)], [(4, .blk 40 [i64 c.missed, i64 c.unseen, i64 c.stretch]), (3, .blk 38 [.sl 0 m.length, .sl 1 s.length]), (0, .ro m.length 2 (thC m)), (1, .ro s.length 2 (thC s)), (2, .ro l.length 2 (prC l))], 5⟩) (fun k => k ≤ l.length - 1) (fun k => l.length - k) 0 ⟨?_, sub_intro hm [(0, some 0), (1, some 1), (2, some 2), (3, some 3), (4, some 4)] rfl ?_⟩ ?_
      · exact Nat.zero_le _
      · unfold endS' growS
        exact sd
      · rintro k hk
        repeat first | refine lwp_seq fun K hK => ?_ | ((with_reducible refine gA ?_); apply_assumption -exfalso -symm) | refine gB ?_ | refine gC ?_ | refine gD ?_ | refine gE ?_ | refine gF rfl ?_ | refine gG rfl ?_ | refine gH ?_ | refine gI ?_ | refine gJ ?_ | refine gK ?_ | refine gL ?_ | refine gM hC rfl ⟨⟩ ?_ | refine gM hC rfl (by exact sd) ?_
        (refine lwp_cond hC rfl (by first | exact ⟨⟩ | exact sd) (fun hb => ?_) (fun hb => ?_) <;> (try simp only [decide_eq_true_eq, decide_eq_false_iff_not, Bool.not_eq_true', Bool.not_eq_false', ne_eq, Decidable.not_not] at hb))
        · have g1 := growS_small h k (by omega)
          have g2 := grownS_small h.hc ⟨h.hm, h.hs⟩ h.pm h.ps (h.p k (by omega)) (h.p ((k : Int) + 1).toNat (by omega))
          repeat first | refine lwp_seq fun K hK => ?_ | ((with_reducible refine gA ?_); apply_assumption -exfalso -symm) | refine gB ?_ | refine gC ?_ | refine gD ?_ | refine gE ?_ | refine gF rfl ?_ | refine gG rfl ?_ | refine gH ?_ | refine gI ?_ | refine gJ ?_ | refine gK ?_ | refine gL ?_ | refine gM hC rfl ⟨⟩ ?_ | refine gM hC rfl (by exact sd) ?_
          (refine lwp_drawn hC (by rw [hP]; exact mixed) ⟨[], [], [(12, Grown_i m s c (prAt l k) (prAt l ((k : Int) + 1).toNat) [(0, some 0), (1, some 1)])]⟩ (told1 _ (by rw [hP]; exact (calls_cons (Grown_s _ _ _ _ _ _ h.hc ⟨h.hm, h.hs⟩ h.pm h.ps (h.p k (by omega)) (h.p _ (by omega))) calls_nil))) [0, 0, 0, 0, 0, 24, 56, 0, 0, 256, 896, 1920, 4094, 8191, 16383] 13 rfl ?_ ?_; rotate_left 1)
          · repeat first | refine lwp_seq fun K hK => ?_ | ((with_reducible refine gA ?_); apply_assumption -exfalso -symm) | refine gB ?_ | refine gC ?_ | refine gD ?_ | refine gE ?_ | refine gF rfl ?_ | refine gG rfl ?_ | refine gH ?_ | refine gI ?_ | refine gJ ?_ | refine gK ?_ | refine gL ?_ | refine gM hC rfl ⟨⟩ ?_ | refine gM hC rfl (by exact sd) ?_
            refine gA ⟨k + 1, ?_, ?_, sub_intro hm [(0, some 0), (1, some 1), (2, some 2), (3, some 3), (4, some 4)] rfl ?_⟩
            · omega
            · omega
            · have e5 : ((k : Int) + 1).toNat = k + 1 := by omega
              rw [e5]
              simp only [growS]
              exact sd
          · unfold endS'
            exact sd
        · repeat first | refine lwp_seq fun K hK => ?_ | ((with_reducible refine gA ?_); apply_assumption -exfalso -symm) | refine gB ?_ | refine gC ?_ | refine gD ?_ | refine gE ?_ | refine gF rfl ?_ | refine gG rfl ?_ | refine gH ?_ | refine gI ?_ | refine gJ ?_ | refine gK ?_ | refine gL ?_ | refine gM hC rfl ⟨⟩ ?_ | refine gM hC rfl (by exact sd) ?_
          (refine end_intro (by first | exact .inr rfl | exact .inl rfl) [] rfl ?_)
          refine ⟨?_, trivial⟩
          obtain rfl : k = l.length - 1 := by omega
          show costS m s c l = endS' s c l + growS m s c l (l.length - 1)
          unfold costS
          rw [if_neg (by omega)]
    · exact sd

end Go.Proofs.YtfmnfagcbehmdaaGreatDoor

namespace Go.Proofs.YtfmnfagcbehmdaaGreatDoor
open Go.RowKit Go.Sym

def costE (m s : List Th) (c : Cs) (l : List (Int × Int)) : Int := firstS [rideS m s, costsS c.missed c.unseen c.stretch, checkPairsS m s l]
theorem costsS_zero {a b c : Int} : costsS a b c = 0 ↔ (0 ≤ a ∧ a ≤ 1000) ∧ (0 ≤ b ∧ b ≤ 1000) ∧ 0 ≤ c ∧ c ≤ 1000 := by
  unfold costsS
  rw [firstS_cons, firstS_cons, firstS_cons, withinS_zero, withinS_zero, withinS_zero]
  simp [firstS]
theorem fit_of {m s : List Th} {c : Cs} {l : List (Int × Int)} (h : costE m s c l = 0) : Fit m s c l := by
  unfold costE at h
  rw [firstS_cons, firstS_cons, firstS_cons] at h
  obtain ⟨h1, h2, h3, _⟩ := h
  obtain ⟨h4, h5⟩ := rideS_zero h1
  unfold checkPairsS at h3
  split at h3
  · rename_i hf
    unfold frontS at hf
    rw [firstS_cons, firstS_cons, whenS_zero (by decide)] at hf
    have hl : l.length ≤ 64 := by have := of_decide_eq_false hf.2.1; omega
    refine ⟨costsS_zero.1 h2, (checkS_zero h4).1, (checkS_zero h5).1, hl, (checkS_zero h4).2, (checkS_zero h5).2, fun i hi => pairsS_zero h3 _ ?_⟩
    unfold prAt
    rw [List.getD_eq_getElem?_getD, List.getElem?_eq_getElem hi]
    exact List.getElem_mem hi
  · rename_i hf; exact absurd h3 hf

def costR (m s : List Th) (c : Cs) (l : List (Int × Int)) : Int := if costE m s c l = 0 then costS m s c l else 0
def Cost_i (m s : List Th) (c : Cs) (l : List (Int × Int)) (σ : Ren) : Inst := { f := 32, hin := costIn m s l, args := [rdA m s, csA c, .sl 2 l.length], hout := [], ret := .tup [i64 (costR m s c l), i64 (costE m s c l)], σ := σ }
theorem Cost_s (m s : List Th) (c : Cs) (l : List (Int × Int)) (σ : Ren) (hm' : m.length ≤ 1000000) (hs : s.length ≤ 1000000) (hl : l.length ≤ 1000000) : (Cost_i m s c l σ).ok Tryz.prog := by
  unfold Cost_i Inst.ok; dsimp only; refine spec_of_body (tys := tys) 3 Tryz.func32 (by kernel_rfl) rfl tys_ok rfl (Nat.le_of_ble_eq_true rfl) (fun _ _ h => (by cases h)) fun F hP hm hC hrd => ?_; conv => whnf
  repeat first | refine lwp_seq fun K hK => ?_ | ((with_reducible refine gA ?_); apply_assumption -exfalso -symm) | refine gB ?_ | refine gC ?_ | refine gD ?_ | refine gE ?_ | refine gF rfl ?_ | refine gG rfl ?_ | refine gH ?_ | refine gI ?_ | refine gJ ?_ | refine gK ?_ | refine gL ?_ | refine gM hC rfl ⟨⟩ ?_ | refine gM hC rfl (by exact sd) ?_
  (refine lwp_drawn hC (by rw [hP]; exact mixed) ⟨[], [], [(1, Ride_i m s [(0, some 0), (1, some 1)]), (3, Costs_i c.missed c.unseen c.stretch), (6, Pairs_i m s l [(0, some 0), (1, some 1), (2, some 2)]), (8, AFirst_i [rideS m s, costsS c.missed c.unseen c.stretch, checkPairsS m s l] [(0, some 5)])]⟩ (told1 _ (by rw [hP]; exact (calls_cons (Ride_s _ _ _ hm' hs) (calls_cons (Costs_s _ _ _) (calls_cons (Pairs_s _ _ _ _ hm' hs hl) (calls_cons (AFirst_s _ _ (by simp)) calls_nil)))))) [0, 1, 0, 7, 0, 0, 63, 127, 255, 511] 6 rfl ?_ ?_; rotate_left 1)
  · repeat first | refine lwp_seq fun K hK => ?_ | ((with_reducible refine gA ?_); apply_assumption -exfalso -symm) | refine gB ?_ | refine gC ?_ | refine gD ?_ | refine gE ?_ | refine gF rfl ?_ | refine gG rfl ?_ | refine gH ?_ | refine gI ?_ | refine gJ ?_ | refine gK ?_ | refine gL ?_ | refine gM hC rfl ⟨⟩ ?_ | refine gM hC rfl (by exact sd) ?_
    (refine lwp_cond hC rfl (by first | exact ⟨⟩ | exact sd) (fun hb => ?_) (fun hb => ?_) <;> (try simp only [decide_eq_true_eq, decide_eq_false_iff_not, Bool.not_eq_true', Bool.not_eq_false', ne_eq, Decidable.not_not] at hb))
    · repeat first | refine lwp_seq fun K hK => ?_ | ((with_reducible refine gA ?_); apply_assumption -exfalso -symm) | refine gB ?_ | refine gC ?_ | refine gD ?_ | refine gE ?_ | refine gF rfl ?_ | refine gG rfl ?_ | refine gH ?_ | refine gI ?_ | refine gJ ?_ | refine gK ?_ | refine gL ?_ | refine gM hC rfl ⟨⟩ ?_ | refine gM hC rfl (by exact sd) ?_
      (refine end_intro (by first | exact .inr rfl | exact .inl rfl) [] rfl ?_)
      have hb' : ¬ costE m s c l = 0 := hb
      refine ⟨rfl, ?_, trivial⟩
      show costR m s c l = 0
      unfold costR
      rw [if_neg hb']
    · have hb' : costE m s c l = 0 := hb
      repeat first | refine lwp_seq fun K hK => ?_ | ((with_reducible refine gA ?_); apply_assumption -exfalso -symm) | refine gB ?_ | refine gC ?_ | refine gD ?_ | refine gE ?_ | refine gF rfl ?_ | refine gG rfl ?_ | refine gH ?_ | refine gI ?_ | refine gJ ?_ | refine gK ?_ | refine gL ?_ | refine gM hC rfl ⟨⟩ ?_ | refine gM hC rfl (by exact sd) ?_
      (refine lwp_region hC ⟨[], [], [(3, RCost_i m s c l [(0, some 0), (1, some 1), (2, some 2)])]⟩ (told1 _ (by rw [hP]; exact (calls_cons (RCost_s _ _ _ _ _ (fit_of hb')) calls_nil))) rfl ?_ ?_; rotate_left 1)
      · repeat first | refine lwp_seq fun K hK => ?_ | ((with_reducible refine gA ?_); apply_assumption -exfalso -symm) | refine gB ?_ | refine gC ?_ | refine gD ?_ | refine gE ?_ | refine gF rfl ?_ | refine gG rfl ?_ | refine gH ?_ | refine gI ?_ | refine gJ ?_ | refine gK ?_ | refine gL ?_ | refine gM hC rfl ⟨⟩ ?_ | refine gM hC rfl (by exact sd) ?_
        (refine end_intro (by first | exact .inr rfl | exact .inl rfl) [] rfl ?_)
        refine ⟨hb', ?_, trivial⟩
        show costR m s c l = costS m s c l
        unfold costR
        rw [if_pos hb']
      · exact sd
  · exact sd

end Go.Proofs.YtfmnfagcbehmdaaGreatDoor
