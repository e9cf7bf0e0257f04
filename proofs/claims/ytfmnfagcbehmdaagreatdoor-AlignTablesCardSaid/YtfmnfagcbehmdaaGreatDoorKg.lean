/- Chapter 5: the table of a ride, the reference's. -/
import Derived.Test.YtfmnfagcbehmdaaGreatDoorKc
import Derived.Test.YtfmnfagcbehmdaaGreatDoorDj
set_option linter.unusedVariables false
set_option linter.unusedSimpArgs false
namespace Go.Proofs.YtfmnfagcbehmdaaGreatDoor
open Go.RowKit Go.Sym

theorem app_tbl (j n : Nat) (len : Nat → Nat) (a : AV) : (Cont.app (.tbl j n len none) [a]).cells = (List.range (n + 1)).map fun q => if q = n then a else .tb j (.row q (len q)) := by
  simp only [Cont.cells]
  rw [List.range_succ, List.map_append]
  congr 1
  · refine List.map_congr_left fun q hq => ?_
    have := List.mem_range.1 hq
    rw [if_neg (by omega)]
    rfl
  · simp

/-- A cell of the reference's table: how a further pair ahead of it lessens its value. -/
def minF (m s : List Th) (c : Cs) (R : Nat → List Int) (i k p q : Nat) (v : Int) : Int :=
  if (R p).getD q 0 ≥ 0 then (if (R p).getD q 0 + grownS m s c ((p : Int), (q : Int)) ((i : Int), (k : Int)) < v then (R p).getD q 0 + grownS m s c ((p : Int), (q : Int)) ((i : Int), (k : Int)) else v) else v
def innF (m s : List Th) (c : Cs) (R : Nat → List Int) (i k p : Nat) (v : Int) : Nat → Int
  | 0 => v
  | q + 1 => minF m s c R i k p q (innF m s c R i k p v q)
def outF (m s : List Th) (c : Cs) (R : Nat → List Int) (i k : Nat) : Nat → Int
  | 0 => c.missed * i
  | p + 1 => innF m s c R i k p (outF m s c R i k p) k
def cellF (m s : List Th) (c : Cs) (R : Nat → List Int) (i k : Nat) : Int := if alikeS m s ((i : Int), (k : Int)) = true then outF m s c R i k i else -1
def lineF (m s : List Th) (c : Cs) (R : Nat → List Int) (i : Nat) : Nat → List Int
  | 0 => List.replicate m.length 0
  | k + 1 => (lineF m s c R i k).set k (cellF m s c R i k)
def refF (m s : List Th) (c : Cs) : Nat → Nat → List Int
  | 0, _ => []
  | i + 1, q => if q = i then lineF m s c (refF m s c i) i m.length else refF m s c i q
theorem lineF_len (m s : List Th) (c : Cs) (R : Nat → List Int) (i k : Nat) : (lineF m s c R i k).length = m.length := by
  induction k with
  | zero => simp [lineF]
  | succ k ih => simp [lineF, ih]
theorem refF_len {m s : List Th} {c : Cs} {i q : Nat} (h : q < i) : (refF m s c i q).length = m.length := by
  induction i with
  | zero => omega
  | succ i ih =>
    unfold refF
    split
    · exact lineF_len _ _ _ _ _ _
    · exact ih (by omega)
def smallR (R : Nat → List Int) : Prop := ∀ p q, -1 ≤ (R p).getD q 0 ∧ (R p).getD q 0 ≤ 64000
theorem innF_bound {m s : List Th} {c : Cs} {R : Nat → List Int} (hc : csOk c) {i k p : Nat} (hp : p < i) (hR : smallR R) {v : Int} (hv : 0 ≤ v ∧ v ≤ 64000) : ∀ q, q ≤ k → 0 ≤ innF m s c R i k p v q ∧ innF m s c R i k p v q ≤ 64000
  | 0, _ => hv
  | q + 1, hq => by
    have ih := innF_bound (m := m) (s := s) (k := k) hc hp hR hv q (by omega)
    have g0 := grownS_nonneg (m := m) (s := s) (a := ((p : Int), (q : Int))) (b := ((i : Int), (k : Int))) hc (by show (p : Int) < i; omega) (by show (q : Int) < k; omega)
    unfold innF minF
    split
    · split <;> omega
    · exact ih
theorem outF_bound {m s : List Th} {c : Cs} {R : Nat → List Int} (hc : csOk c) {i k : Nat} (hi : i ≤ 64) (hR : smallR R) : ∀ p, p ≤ i → 0 ≤ outF m s c R i k p ∧ outF m s c R i k p ≤ 64000
  | 0, _ => by
    have h1 := Int.mul_nonneg hc.1.1 (show (0 : Int) ≤ i by omega)
    have h2 := Int.mul_le_mul hc.1.2 (show (i : Int) ≤ 64 by omega) (by omega) (by decide)
    exact ⟨h1, by show c.missed * _ ≤ _; omega⟩
  | p + 1, hp => innF_bound hc (by omega) hR (outF_bound hc hi hR p (by omega)) k (Nat.le_refl _)
theorem cellF_bound {m s : List Th} {c : Cs} {R : Nat → List Int} (hc : csOk c) {i k : Nat} (hi : i ≤ 64) (hR : smallR R) : -1 ≤ cellF m s c R i k ∧ cellF m s c R i k ≤ 64000 := by
  unfold cellF
  split
  · have := outF_bound (m := m) (s := s) (k := k) hc hi hR i (Nat.le_refl _); omega
  · omega
theorem getD_set (l : List Int) (k q : Nat) (v : Int) : (l.set k v).getD q 0 = if q = k ∧ k < l.length then v else l.getD q 0 := by
  rw [List.getD_eq_getElem?_getD, List.getElem?_set]
  by_cases h : k = q
  · subst h
    by_cases h2 : k < l.length
    · simp [h2]
    · simp [h2]
  · rw [if_neg h, if_neg (by omega), ← List.getD_eq_getElem?_getD]
theorem lineF_small {m s : List Th} {c : Cs} {R : Nat → List Int} (hc : csOk c) {i : Nat} (hi : i ≤ 64) (hR : smallR R) : ∀ k q, -1 ≤ (lineF m s c R i k).getD q 0 ∧ (lineF m s c R i k).getD q 0 ≤ 64000
  | 0, q => by
    unfold lineF
    by_cases h : q < m.length <;> simp [List.getD, h]
  | k + 1, q => by
    unfold lineF
    rw [getD_set]
    split
    · exact cellF_bound hc hi hR
    · exact lineF_small hc hi hR k q
theorem refF_small {m s : List Th} {c : Cs} (hc : csOk c) : ∀ i, i ≤ 64 → smallR (refF m s c i)
  | 0, _ => fun p q => by unfold refF; simp
  | i + 1, hi => fun p q => by
    unfold refF
    split
    · exact lineF_small hc (by omega) (refF_small hc i (by omega)) _ _
    · exact refF_small hc i (by omega) p q

def RTable_i (m s : List Th) (c : Cs) (σ : Ren) : Inst := { f := 24, hin := rideIn m s, args := [rdA m s, csA c], hout := [(2, tabC 3 s.length (refF m s c s.length)), (3, famC s.length (refF m s c s.length))], ret := .sl 2 s.length, σ := σ }
set_option maxRecDepth 20000 in
set_option maxHeartbeats 4000000 in
theorem RTable_s (m s : List Th) (c : Cs) (σ : Ren) (hc : csOk c) (hl : m.length ≤ 64 ∧ s.length ≤ 64) (hpm : placesOk m) (hps : placesOk s) : (RTable_i m s c σ).ok Tryz.prog := by
  unfold RTable_i Inst.ok; dsimp only; refine spec_of_body (tys := tys) 2 Tryz.func24 (by kernel_rfl) rfl tys_ok rfl (Nat.le_of_ble_eq_true rfl) (fun _ _ h => (by cases h)) fun F hP hm hC hrd => ?_; conv => whnf
  repeat first | refine lwp_seq fun K hK => ?_ | ((with_reducible refine gA ?_); apply_assumption -exfalso -symm) | refine gB ?_ | refine gC ?_ | refine gD ?_ | refine gE ?_ | refine gF rfl ?_ | refine gG rfl ?_ | refine gH ?_ | refine gI ?_ | refine gJ ?_ | refine gK ?_ | refine gL ?_ | refine gM hC rfl ⟨⟩ ?_ | refine gM hC rfl (by exact sd) ?_
  refine lwp_sub (fam0_sub true 3 1 (fun q => (refF m s c 0 q).length) (fun q => .ints .i64 (refF m s c 0 q)) (by decide)) ?_
  refine lwp_loop (fun i : Nat => ⟨[(6, i64 i), (5, .sl 4 i), (2, .ptr 2 0 0 0), (3, .ptr 3 0 0 0)], [(4, tabC 5 i (refF m s c i)), (5, famC i (refF m s c i)), (0, .ro m.length 2 (thC m)), (1, .ro s.length 2 (thC s)), (2, .blk 25 [.sl 0 m.length, .sl 1 s.length]), (3, .blk 27 [i64 c.missed, i64 c.unseen, i64 c.stretch])], 6⟩) (fun i => i ≤ s.length) (fun i => s.length - i) 0 ⟨?_, sub_intro hm [(0, some 0), (1, some 1), (2, some 2), (3, some 3), (4, none), (5, some 4)] rfl ?_⟩ ?_
  · exact Nat.zero_le _
  · exact sd
  · rintro i hi
    have e1 : (i : Int).toNat = i := Int.toNat_natCast i
    repeat first | refine lwp_seq fun K hK => ?_ | ((with_reducible refine gA ?_); apply_assumption -exfalso -symm) | refine gB ?_ | refine gC ?_ | refine gD ?_ | refine gE ?_ | refine gF rfl ?_ | refine gG rfl ?_ | refine gH ?_ | refine gI ?_ | refine gJ ?_ | refine gK ?_ | refine gL ?_ | refine gM hC rfl ⟨⟩ ?_ | refine gM hC rfl (by exact sd) ?_
    (refine lwp_cond hC rfl (by first | exact ⟨⟩ | exact sd) (fun hb => ?_) (fun hb => ?_) <;> (try simp only [decide_eq_true_eq, decide_eq_false_iff_not, Bool.not_eq_true', Bool.not_eq_false', ne_eq, Decidable.not_not] at hb))
    · have his : i < s.length := by omega
      have hsm := refF_small (m := m) (s := s) hc i (by omega)
      have hlr : ∀ q, q < i → (refF m s c i q).length = m.length := fun q hq => refF_len hq
      have hnx : ∀ q, refF m s c (i + 1) q = if q = i then lineF m s c (refF m s c i) i m.length else refF m s c i q := fun q => rfl
      obtain ⟨R, hR⟩ : ∃ R, refF m s c i = R := ⟨_, rfl⟩
      rw [hR] at hsm hlr hnx ⊢
      have HNX := Lib.hid hnx
      have HSM := Lib.hid hsm
      clear hR hnx hsm
      repeat first | refine lwp_seq fun K hK => ?_ | ((with_reducible refine gA ?_); apply_assumption -exfalso -symm) | refine gB ?_ | refine gC ?_ | refine gD ?_ | refine gE ?_ | refine gF rfl ?_ | refine gG rfl ?_ | refine gH ?_ | refine gI ?_ | refine gJ ?_ | refine gK ?_ | refine gL ?_ | refine gM hC rfl ⟨⟩ ?_ | refine gM hC rfl (by exact sd) ?_
      refine lwp_loop (fun k : Nat => ⟨[(8, i64 k), (7, .sl 6 m.length), (6, i64 i), (5, .sl 4 i), (2, .ptr 2 0 0 0), (3, .ptr 3 0 0 0)], [(6, .row 3 m.length 1 (.ints .i64 (lineF m s c R i k))), (4, tabC 5 i R), (5, famC i R), (0, .ro m.length 2 (thC m)), (1, .ro s.length 2 (thC s)), (2, .blk 25 [.sl 0 m.length, .sl 1 s.length]), (3, .blk 27 [i64 c.missed, i64 c.unseen, i64 c.stretch])], 7⟩) (fun k => k ≤ m.length) (fun k => m.length - k) 0 ⟨?_, sub_intro hm [(0, some 0), (1, some 1), (2, some 2), (3, some 3), (4, some 4), (5, some 5), (6, some 6)] rfl ?_⟩ ?_
      · exact Nat.zero_le _
      · exact sd
      · rintro k hk
        have e2 : (k : Int).toNat = k := Int.toNat_natCast k
        repeat first | refine lwp_seq fun K hK => ?_ | ((with_reducible refine gA ?_); apply_assumption -exfalso -symm) | refine gB ?_ | refine gC ?_ | refine gD ?_ | refine gE ?_ | refine gF rfl ?_ | refine gG rfl ?_ | refine gH ?_ | refine gI ?_ | refine gJ ?_ | refine gK ?_ | refine gL ?_ | refine gM hC rfl ⟨⟩ ?_ | refine gM hC rfl (by exact sd) ?_
        (refine lwp_cond hC rfl (by first | exact ⟨⟩ | exact sd) (fun hb => ?_) (fun hb => ?_) <;> (try simp only [decide_eq_true_eq, decide_eq_false_iff_not, Bool.not_eq_true', Bool.not_eq_false', ne_eq, Decidable.not_not] at hb))
        · have hkm : k < m.length := by omega
          have hp : inS m s ((i : Int), (k : Int)) := ⟨⟨by show (0 : Int) ≤ i; omega, by show (i : Int) < _; omega⟩, by show (0 : Int) ≤ k; omega, by show (k : Int) < _; omega⟩
          have hwl := lineF_len m s c R i k
          have hln : lineF m s c R i (k + 1) = (lineF m s c R i k).set k (cellF m s c R i k) := rfl
          have hcf : cellF m s c R i k = if alikeS m s ((i : Int), (k : Int)) = true then outF m s c R i k i else -1 := rfl
          obtain ⟨W, hW⟩ : ∃ W, lineF m s c R i k = W := ⟨_, rfl⟩
          rw [hW] at hwl hln ⊢
          have HLN := Lib.hid hln
          have HCF := Lib.hid hcf
          clear hln hcf hW
          repeat first | refine lwp_seq fun K hK => ?_ | ((with_reducible refine gA ?_); apply_assumption -exfalso -symm) | refine gB ?_ | refine gC ?_ | refine gD ?_ | refine gE ?_ | refine gF rfl ?_ | refine gG rfl ?_ | refine gH ?_ | refine gI ?_ | refine gJ ?_ | refine gK ?_ | refine gL ?_ | refine gM hC rfl ⟨⟩ ?_ | refine gM hC rfl (by exact sd) ?_
          simp only [e2]
          (refine lwp_region hC ⟨[], [], [(2, RAlike_i m s ((i : Int), (k : Int)) [(0, some 0), (1, some 1)])]⟩ (told1 _ (by rw [hP]; exact (calls_cons (RAlike_s _ _ _ _ (by omega) (by omega) hp) calls_nil))) rfl ?_ ?_; rotate_left 1)
          · repeat first | refine lwp_seq fun K hK => ?_ | ((with_reducible refine gA ?_); apply_assumption -exfalso -symm) | refine gB ?_ | refine gC ?_ | refine gD ?_ | refine gE ?_ | refine gF rfl ?_ | refine gG rfl ?_ | refine gH ?_ | refine gI ?_ | refine gJ ?_ | refine gK ?_ | refine gL ?_ | refine gM hC rfl ⟨⟩ ?_ | refine gM hC rfl (by exact sd) ?_
            (refine lwp_cond hC rfl (by first | exact ⟨⟩ | exact sd) (fun hb => ?_) (fun hb => ?_) <;> (try simp only [decide_eq_true_eq, decide_eq_false_iff_not, Bool.not_eq_true', Bool.not_eq_false', ne_eq, Decidable.not_not] at hb))
            · have ha : alikeS m s ((i : Int), (k : Int)) = false := by simpa using hb
              have hcv : cellF m s c R i k = -1 := by rw [HCF.out, ha]; rfl
              repeat first | refine lwp_seq fun K hK => ?_ | ((with_reducible refine gA ?_); apply_assumption -exfalso -symm) | refine gB ?_ | refine gC ?_ | refine gD ?_ | refine gE ?_ | refine gF rfl ?_ | refine gG rfl ?_ | refine gH ?_ | refine gI ?_ | refine gJ ?_ | refine gK ?_ | refine gL ?_ | refine gM hC rfl ⟨⟩ ?_ | refine gM hC rfl (by exact sd) ?_
              refine gA ⟨k + 1, ?_, ?_, sub_intro hm [(0, some 0), (1, some 1), (2, some 2), (3, some 3), (4, some 4), (5, some 5), (6, some 6)] rfl ?_⟩
              · omega
              · omega
              · rw [HLN.out, hcv]
                exact sd
            · have ha : alikeS m s ((i : Int), (k : Int)) = true := by simpa using hb
              have hcv : cellF m s c R i k = outF m s c R i k i := by rw [HCF.out, if_pos ha]
              have HCV := Lib.hid hcv
              have k1 := mul_small (b := (i : Int)) hc.1 (by omega)
              have hss : ∀ v v', (W.set k v).set k v' = W.set k v' := fun v v' => by rw [List.set_set]
              have hsl : ∀ v, (W.set k v).length = m.length := fun v => by rw [List.length_set]; exact hwl
              have hsg : ∀ v, (W.set k v).getD k 0 = v := fun v => by rw [getD_set, if_pos ⟨rfl, by omega⟩]
              have ho0 : outF m s c R i k 0 = c.missed * i := rfl
              have hob := outF_bound (m := m) (s := s) (k := k) hc (show i ≤ 64 by omega) HSM.out
              have HOB := Lib.hid hob
              clear hcv hob
              repeat first | refine lwp_seq fun K hK => ?_ | ((with_reducible refine gA ?_); apply_assumption -exfalso -symm) | refine gB ?_ | refine gC ?_ | refine gD ?_ | refine gE ?_ | refine gF rfl ?_ | refine gG rfl ?_ | refine gH ?_ | refine gI ?_ | refine gJ ?_ | refine gK ?_ | refine gL ?_ | refine gM hC rfl ⟨⟩ ?_ | refine gM hC rfl (by exact sd) ?_
              simp only [e2, hss]
              rw [← ho0]
              refine lwp_loop (fun p : Nat => ⟨[(10, i64 p), (9, .ptr 7 0 0 0), (8, i64 k), (7, .sl 6 m.length), (6, i64 i), (5, .sl 4 i), (2, .ptr 2 0 0 0), (3, .ptr 3 0 0 0)], [(7, .blk 76 [i64 i, i64 k]), (6, .row 3 m.length 1 (.ints .i64 (W.set k (outF m s c R i k p)))), (4, tabC 5 i R), (5, famC i R), (0, .ro m.length 2 (thC m)), (1, .ro s.length 2 (thC s)), (2, .blk 25 [.sl 0 m.length, .sl 1 s.length]), (3, .blk 27 [i64 c.missed, i64 c.unseen, i64 c.stretch])], 8⟩) (fun p => p ≤ i) (fun p => i - p) 0 ⟨?_, sub_intro hm [(0, some 0), (1, some 1), (2, some 2), (3, some 3), (4, some 4), (5, some 5), (6, some 6), (7, some 7)] rfl ?_⟩ ?_
              · exact Nat.zero_le _
              · exact sd
              · rintro p hpi
                have e3 : (p : Int).toNat = p := Int.toNat_natCast p
                repeat first | refine lwp_seq fun K hK => ?_ | ((with_reducible refine gA ?_); apply_assumption -exfalso -symm) | refine gB ?_ | refine gC ?_ | refine gD ?_ | refine gE ?_ | refine gF rfl ?_ | refine gG rfl ?_ | refine gH ?_ | refine gI ?_ | refine gJ ?_ | refine gK ?_ | refine gL ?_ | refine gM hC rfl ⟨⟩ ?_ | refine gM hC rfl (by exact sd) ?_
                (refine lwp_cond hC rfl (by first | exact ⟨⟩ | exact sd) (fun hb => ?_) (fun hb => ?_) <;> (try simp only [decide_eq_true_eq, decide_eq_false_iff_not, Bool.not_eq_true', Bool.not_eq_false', ne_eq, Decidable.not_not] at hb))
                · have hpl : p < i := by omega
                  have hlp := hlr p hpl
                  have hpn : outF m s c R i k (p + 1) = innF m s c R i k p (outF m s c R i k p) k := rfl
                  have hvb := HOB.out p hpi
                  have hib := innF_bound (m := m) (s := s) (k := k) hc hpl HSM.out hvb
                  obtain ⟨v, hv⟩ : ∃ v, outF m s c R i k p = v := ⟨_, rfl⟩
                  rw [hv] at hpn hib ⊢
                  have hi0 : innF m s c R i k p v 0 = v := rfl
                  have HPN := Lib.hid hpn
                  have HIB := Lib.hid hib
                  clear hpn hvb hv hib
                  rw [← hi0]
                  repeat first | refine lwp_seq fun K hK => ?_ | ((with_reducible refine gA ?_); apply_assumption -exfalso -symm) | refine gB ?_ | refine gC ?_ | refine gD ?_ | refine gE ?_ | refine gF rfl ?_ | refine gG rfl ?_ | refine gH ?_ | refine gI ?_ | refine gJ ?_ | refine gK ?_ | refine gL ?_ | refine gM hC rfl ⟨⟩ ?_ | refine gM hC rfl (by exact sd) ?_
                  refine lwp_loop (fun q : Nat => ⟨[(11, i64 q), (10, i64 p), (9, .ptr 7 0 0 0), (8, i64 k), (7, .sl 6 m.length), (6, i64 i), (5, .sl 4 i), (2, .ptr 2 0 0 0), (3, .ptr 3 0 0 0)], [(7, .blk 76 [i64 i, i64 k]), (6, .row 3 m.length 1 (.ints .i64 (W.set k (innF m s c R i k p v q)))), (4, tabC 5 i R), (5, famC i R), (0, .ro m.length 2 (thC m)), (1, .ro s.length 2 (thC s)), (2, .blk 25 [.sl 0 m.length, .sl 1 s.length]), (3, .blk 27 [i64 c.missed, i64 c.unseen, i64 c.stretch])], 8⟩) (fun q => q ≤ k) (fun q => k - q) 0 ⟨?_, sub_intro hm [(0, some 0), (1, some 1), (2, some 2), (3, some 3), (4, some 4), (5, some 5), (6, some 6), (7, some 7)] rfl ?_⟩ ?_
                  · exact Nat.zero_le _
                  · exact sd
                  · rintro q hq
                    have e4 : (q : Int).toNat = q := Int.toNat_natCast q
                    repeat first | refine lwp_seq fun K hK => ?_ | ((with_reducible refine gA ?_); apply_assumption -exfalso -symm) | refine gB ?_ | refine gC ?_ | refine gD ?_ | refine gE ?_ | refine gF rfl ?_ | refine gG rfl ?_ | refine gH ?_ | refine gI ?_ | refine gJ ?_ | refine gK ?_ | refine gL ?_ | refine gM hC rfl ⟨⟩ ?_ | refine gM hC rfl (by exact sd) ?_
                    (refine lwp_cond hC rfl (by first | exact ⟨⟩ | exact sd) (fun hb => ?_) (fun hb => ?_) <;> (try simp only [decide_eq_true_eq, decide_eq_false_iff_not, Bool.not_eq_true', Bool.not_eq_false', ne_eq, Decidable.not_not] at hb))
                    · have hqk : q < k := by omega
                      have hqn : innF m s c R i k p v (q + 1) = minF m s c R i k p q (innF m s c R i k p v q) := rfl
                      have hbq := HIB.out q hq
                      obtain ⟨u, hu⟩ : ∃ u, innF m s c R i k p v q = u := ⟨_, rfl⟩
                      rw [hu] at hqn hbq ⊢
                      have HQN := Lib.hid hqn
                      clear hqn hu
                      have hrb := HSM.out p q
                      have hpq : inS m s ((p : Int), (q : Int)) := ⟨⟨by show (0 : Int) ≤ p; omega, by show (p : Int) < _; omega⟩, by show (0 : Int) ≤ q; omega, by show (q : Int) < _; omega⟩
                      have hgs := grownS_small hc hl hpm hps hpq hp
                      repeat first | refine lwp_seq fun K hK => ?_ | ((with_reducible refine gA ?_); apply_assumption -exfalso -symm) | refine gB ?_ | refine gC ?_ | refine gD ?_ | refine gE ?_ | refine gF rfl ?_ | refine gG rfl ?_ | refine gH ?_ | refine gI ?_ | refine gJ ?_ | refine gK ?_ | refine gL ?_ | refine gM hC rfl ⟨⟩ ?_ | refine gM hC rfl (by exact sd) ?_
                      simp only [e3, e4]
                      (refine lwp_cond hC rfl (by first | exact ⟨⟩ | exact sd) (fun hb => ?_) (fun hb => ?_) <;> (try simp only [decide_eq_true_eq, decide_eq_false_iff_not, Bool.not_eq_true', Bool.not_eq_false', ne_eq, Decidable.not_not] at hb))
                      · have hmf : minF m s c R i k p q u = (if (R p).getD q 0 + grownS m s c ((p : Int), (q : Int)) ((i : Int), (k : Int)) < u then (R p).getD q 0 + grownS m s c ((p : Int), (q : Int)) ((i : Int), (k : Int)) else u) := if_pos hb
                        (refine lwp_drawn2 hC (by rw [hP]; exact mixed) ⟨[], [], [(19, Step_i m s c ((p : Int), (q : Int)) ((i : Int), (k : Int)) [(0, some 0), (1, some 1)])]⟩ (told1 _ (by rw [hP]; exact (calls_cons (Step_s _ _ _ _ _ _ hc hl hpm hps hpq hp) calls_nil))) [0, 0, 0, 0, 12, 28, 0, 0, 192, 448, 0, 1984, 4032, 0, 0, 0, 0, 98304, 0, 516096, 1048512, 2097148, 4194303, 8388607] 23 0 rfl ?_ ?_; rotate_left 1)
                        · simp only [e2, e3, e4, hss, hsg]
                          repeat first | refine lwp_seq fun K hK => ?_ | ((with_reducible refine gA ?_); apply_assumption -exfalso -symm) | refine gB ?_ | refine gC ?_ | refine gD ?_ | refine gE ?_ | refine gF rfl ?_ | refine gG rfl ?_ | refine gH ?_ | refine gI ?_ | refine gJ ?_ | refine gK ?_ | refine gL ?_ | refine gM hC rfl ⟨⟩ ?_ | refine gM hC rfl (by exact sd) ?_
                          refine gA ⟨q + 1, ?_, ?_, sub_intro hm [(0, some 0), (1, some 1), (2, some 2), (3, some 3), (4, some 4), (5, some 5), (6, some 6), (7, some 7)] rfl ?_⟩
                          · omega
                          · omega
                          · rw [HQN.out, hmf]
                            exact sd
                        · simp only [e2, e3, e4, hss, hsg, hsl]
                          exact sd
                      · have hmf : minF m s c R i k p q u = u := if_neg (by omega)
                        repeat first | refine lwp_seq fun K hK => ?_ | ((with_reducible refine gA ?_); apply_assumption -exfalso -symm) | refine gB ?_ | refine gC ?_ | refine gD ?_ | refine gE ?_ | refine gF rfl ?_ | refine gG rfl ?_ | refine gH ?_ | refine gI ?_ | refine gJ ?_ | refine gK ?_ | refine gL ?_ | refine gM hC rfl ⟨⟩ ?_ | refine gM hC rfl (by exact sd) ?_
                        refine gA ⟨q + 1, ?_, ?_, sub_intro hm [(0, some 0), (1, some 1), (2, some 2), (3, some 3), (4, some 4), (5, some 5), (6, some 6), (7, some 7)] rfl ?_⟩
                        · omega
                        · omega
                        · rw [HQN.out, hmf]
                          exact sd
                    · obtain rfl : q = k := by omega
                      repeat first | refine lwp_seq fun K hK => ?_ | ((with_reducible refine gA ?_); apply_assumption -exfalso -symm) | refine gB ?_ | refine gC ?_ | refine gD ?_ | refine gE ?_ | refine gF rfl ?_ | refine gG rfl ?_ | refine gH ?_ | refine gI ?_ | refine gJ ?_ | refine gK ?_ | refine gL ?_ | refine gM hC rfl ⟨⟩ ?_ | refine gM hC rfl (by exact sd) ?_
                      refine gA ⟨p + 1, ?_, ?_, sub_intro hm [(0, some 0), (1, some 1), (2, some 2), (3, some 3), (4, some 4), (5, some 5), (6, some 6), (7, some 7)] rfl ?_⟩
                      · omega
                      · omega
                      · rw [HPN.out]
                        exact sd
                · obtain rfl : p = i := by omega
                  repeat first | refine lwp_seq fun K hK => ?_ | ((with_reducible refine gA ?_); apply_assumption -exfalso -symm) | refine gB ?_ | refine gC ?_ | refine gD ?_ | refine gE ?_ | refine gF rfl ?_ | refine gG rfl ?_ | refine gH ?_ | refine gI ?_ | refine gJ ?_ | refine gK ?_ | refine gL ?_ | refine gM hC rfl ⟨⟩ ?_ | refine gM hC rfl (by exact sd) ?_
                  refine gA ⟨k + 1, ?_, ?_, sub_intro hm [(0, some 0), (1, some 1), (2, some 2), (3, some 3), (4, some 4), (5, some 5), (6, some 6)] rfl ?_⟩
                  · omega
                  · omega
                  · rw [HLN.out, HCV.out]
                    exact sd
          · exact sd
        · obtain rfl : k = m.length := by omega
          have key1 : ∀ q, (refF m s c (i + 1) q).length = if q = i then m.length else (R q).length := fun q => by rw [HNX.out]; split; exact lineF_len _ _ _ _ _ _; rfl
          have key2 : ∀ q, (Cont.ints .i64 (refF m s c (i + 1) q)).cells = (if q = i then Cont.ints .i64 (lineF m s c R i m.length) else Cont.ints .i64 (R q)).cells := fun q => by rw [HNX.out]; split <;> rfl
          repeat first | refine lwp_seq fun K hK => ?_ | ((with_reducible refine gA ?_); apply_assumption -exfalso -symm) | refine gB ?_ | refine gC ?_ | refine gD ?_ | refine gE ?_ | refine gF rfl ?_ | refine gG rfl ?_ | refine gH ?_ | refine gI ?_ | refine gJ ?_ | refine gK ?_ | refine gL ?_ | refine gM hC rfl ⟨⟩ ?_ | refine gM hC rfl (by exact sd) ?_
          refine gA ⟨i + 1, ?_, ?_, Sub.trans (put_sub (i := 8) (j := 5) (k := 6) (e := i) rfl rfl rfl (app_tbl _ _ _ _) (Nat.lt_succ_self _) (fun q h1 h2 => by omega) rfl) (sub_intro hm [(0, some 0), (1, some 1), (2, some 2), (3, some 3), (4, some 8), (5, some 9)] rfl ?_)⟩
          · omega
          · omega
          · simp only [key1, key2]
            (simp only [AllL, All, cd_p, cp_p, cv_p, InK]; (repeat' (first | refine And.intro ?_ ?_ | intro _)) <;> first | omega | exact True.intro | rfl)
    · obtain rfl : i = s.length := by omega
      repeat first | refine lwp_seq fun K hK => ?_ | ((with_reducible refine gA ?_); apply_assumption -exfalso -symm) | refine gB ?_ | refine gC ?_ | refine gD ?_ | refine gE ?_ | refine gF rfl ?_ | refine gG rfl ?_ | refine gH ?_ | refine gI ?_ | refine gJ ?_ | refine gK ?_ | refine gL ?_ | refine gM hC rfl ⟨⟩ ?_ | refine gM hC rfl (by exact sd) ?_
      (refine end_intro (by first | exact .inr rfl | exact .inl rfl) [(2, some 4), (3, some 5)] rfl ?_)
      exact sd

end Go.Proofs.YtfmnfagcbehmdaaGreatDoor
