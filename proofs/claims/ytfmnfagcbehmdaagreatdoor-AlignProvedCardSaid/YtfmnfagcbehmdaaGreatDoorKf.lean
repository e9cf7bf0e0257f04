/- Chapter 5: the bound that a table proves, the program's. -/
import Derived.Test.YtfmnfagcbehmdaaGreatDoorKe
set_option linter.unusedVariables false
set_option linter.unusedSimpArgs false
namespace Go.Proofs.YtfmnfagcbehmdaaGreatDoor
open Go.RowKit Go.Sym

theorem mem_catL {R : Nat → List Int} {e : Nat} {x : Int} (h : x ∈ R e) : ∀ {n : Nat}, e < n → x ∈ catL R n
  | 0, h0 => absurd h0 (Nat.not_lt_zero _)
  | n + 1, h0 => by
    by_cases q : e = n
    · subst q; exact List.mem_append.2 (.inr h)
    · exact List.mem_append.2 (.inl (mem_catL h (show e < n by omega)))
theorem catL_len {R : Nat → List Int} {k : Nat} : ∀ {n : Nat}, (∀ e, e < n → (R e).length = k) → (catL R n).length = n * k
  | 0, _ => by simp [catL]
  | n + 1, h => by
    simp only [catL, List.length_append]
    rw [catL_len (fun e he => h e (by omega)), h n (by omega), Nat.succ_mul]
theorem outB_no {x : Int} : outB x = false ↔ -1 ≤ x ∧ x ≤ 999999999 := by
  unfold outB
  by_cases h1 : x < -1 <;> simp [h1] <;> omega
theorem tabOk_of {m s : List Th} {n : Nat} {R : Nat → List Int} (h : ctS m s n R = 0) : TabOk m s n R := by
  unfold ctS at h
  split at h
  · cases h
  · rename_i h1
    have h2 : ¬ decide (firstF (shortB m.length R) n ≥ 0) = true := fun q => h1 (by rw [q]; rfl)
    have h3 : ¬ decide ((n : Int) ≠ s.length) = true := fun q => h1 (by rw [q]; cases decide (firstF (shortB m.length R) n ≥ 0) <;> rfl)
    have h4 : ¬ decide (firstF (fun i => outB ((catL R n).getD i 0)) (catL R n).length ≥ 0) = true := fun q => by rw [q] at h; simp [whenS] at h
    rw [firstF_any] at h2 h4
    have hl : ∀ e, e < n → (R e).length = m.length := fun e he => by
      cases q : shortB m.length R e with
      | true => exact absurd ⟨e, he, q⟩ h2
      | false => unfold shortB at q; simp at q; omega
    refine ⟨by simp at h3; omega, hl, fun e he k => ?_⟩
    by_cases hk : k < (R e).length
    · have hm : (R e).getD k 0 ∈ catL R n := mem_catL (by rw [List.getD_eq_getElem?_getD, List.getElem?_eq_getElem hk]; exact List.getElem_mem hk) he
      obtain ⟨i, hi, e1⟩ := List.getElem_of_mem hm
      cases q : outB ((catL R n).getD i 0) with
      | true => exact absurd ⟨i, hi, q⟩ h4
      | false =>
        rw [List.getD_eq_getElem?_getD, List.getElem?_eq_getElem hi] at q
        rw [← e1]
        exact outB_no.1 q
    · rw [List.getD_eq_getElem?_getD, List.getElem?_eq_none (by omega)]
      exact ⟨by show (-1 : Int) ≤ 0; omega, by show (0 : Int) ≤ 999999999; omega⟩

/-- The bound of the first pairs. -/
def bndS (m s : List Th) (c : Cs) (R : Nat → List Int) : Nat → Int
  | 0 => c.missed * s.length
  | k + 1 => if ent R (prAt (allP m s) k) + c.missed * (s.length - 1 - (prAt (allP m s) k).1) < bndS m s c R k then ent R (prAt (allP m s) k) + c.missed * (s.length - 1 - (prAt (allP m s) k).1) else bndS m s c R k
theorem bndS_bound {m s : List Th} {c : Cs} {n : Nat} {R : Nat → List Int} (hc : csOk c) (hs : s.length ≤ 64) (ht : TabOk m s n R) : ∀ k, k ≤ (allP m s).length → -1 ≤ bndS m s c R k ∧ bndS m s c R k ≤ 64000
  | 0, _ => by
    have h1 := Int.mul_nonneg hc.1.1 (show (0 : Int) ≤ s.length by omega)
    have h2 := Int.mul_le_mul hc.1.2 (show (s.length : Int) ≤ 64 by omega) (by omega) (by decide)
    exact ⟨by show -1 ≤ c.missed * _; omega, by show c.missed * _ ≤ _; omega⟩
  | k + 1, hk => by
    obtain ⟨i1, i2⟩ := bndS_bound hc hs ht k (by omega)
    have hp := allP_in k (show k < (allP m s).length by omega)
    have he := ht.ent hp
    have h1 := Int.mul_nonneg hc.1.1 (show (0 : Int) ≤ s.length - 1 - (prAt (allP m s) k).1 by have := hp.1; omega)
    unfold bndS
    split <;> omega
def ctE (m s : List Th) (c : Cs) (n : Nat) (R : Nat → List Int) : Int := if aligE m s c ≠ 0 then aligE m s c else if ctS m s n R ≠ 0 then ctS m s n R else if provesS m s c n R = false then 19 else 0
def ctN (m s : List Th) (c : Cs) (n : Nat) (R : Nat → List Int) : Int := if ctE m s c n R ≠ 0 then 0 else bndS m s c R (allP m s).length
def CheckT_i (m s : List Th) (c : Cs) (n : Nat) (R : Nat → List Int) (σ : Ren) : Inst := { f := 22, hin := tabIn m s n R, args := [rdA m s, csA c, .sl 3 n], hout := [], ret := .tup [i64 (ctN m s c n R), i64 (ctE m s c n R)], σ := σ }
set_option maxRecDepth 20000 in
set_option maxHeartbeats 4000000 in
theorem CheckT_s (m s : List Th) (c : Cs) (n : Nat) (R : Nat → List Int) (σ : Ren) (hm' : m.length ≤ 1000000) (hs' : s.length ≤ 1000000) (hn : n ≤ 1000000) (hr : aligE m s c = 0 → ctS m s n R ≠ 2 → (catL R n).length ≤ 200) : (CheckT_i m s c n R σ).ok Tryz.prog := by
  unfold CheckT_i Inst.ok; dsimp only; refine spec_of_body (tys := tys) 4 Tryz.func22 (by kernel_rfl) rfl tys_ok rfl (Nat.le_of_ble_eq_true rfl) (fun _ _ h => (by cases h)) fun F hP hm hC hrd => ?_; conv => whnf
  repeat first | refine lwp_seq fun K hK => ?_ | (with_reducible refine gA ?_; apply_assumption -exfalso -symm) | refine Stp.h ?_ | refine gF rfl ?_ | refine gG rfl ?_ | refine gM hC rfl sd ?_
  (refine lwp_drawn hC (by rw [hP]; exact mixed) ⟨[], [], [(1, Ride_i m s [(0, some 0), (1, some 1)]), (3, Costs_i c.missed c.unseen c.stretch), (5, AFirst_i [rideS m s, costsS c.missed c.unseen c.stretch] [(0, some 6)])]⟩ (told1 _ (by rw [hP]; exact (calls_cons (Ride_s _ _ _ hm' hs') (calls_cons (Costs_s _ _ _) (calls_cons (AFirst_s _ _ (by simp)) calls_nil))))) [0, 1, 0, 7, 15, 31, 63] 3 rfl ?_ ?_; rotate_left 1)
  · repeat first | refine lwp_seq fun K hK => ?_ | (with_reducible refine gA ?_; apply_assumption -exfalso -symm) | refine Stp.h ?_ | refine gF rfl ?_ | refine gG rfl ?_ | refine gM hC rfl sd ?_
    refine lwp_condS hC rfl sd ?_ ?_ <;> intro hb
    · have hb' : aligE m s c ≠ 0 := hb
      have hE : ctE m s c n R = aligE m s c := if_pos hb'
      have hN : ctN m s c n R = 0 := by unfold ctN; rw [hE, if_pos hb']
      repeat first | refine lwp_seq fun K hK => ?_ | (with_reducible refine gA ?_; apply_assumption -exfalso -symm) | refine Stp.h ?_ | refine gF rfl ?_ | refine gG rfl ?_ | refine gM hC rfl sd ?_
      (refine end_intro (by first | exact .inr rfl | exact .inl rfl) [(0, some 0), (1, some 1), (2, some 2), (3, some 3)] rfl ?_)
      rw [hN, hE]
      exact sd
    · have hb' : aligE m s c = 0 := hb
      have hE1 : ctE m s c n R = if ctS m s n R ≠ 0 then ctS m s n R else if provesS m s c n R = false then 19 else 0 := if_neg (by rw [hb']; decide)
      have hf := afit_of hb'
      have hr2 := hr hb'
      repeat first | refine lwp_seq fun K hK => ?_ | (with_reducible refine gA ?_; apply_assumption -exfalso -symm) | refine Stp.h ?_ | refine gF rfl ?_ | refine gG rfl ?_ | refine gM hC rfl ⟨⟩ ?_
      (refine lwp_region hC ⟨[], [], [(2, CT_i m s n R [(0, some 0), (1, some 1), (2, some 2), (3, some 3)])]⟩ (told1 _ (by rw [hP]; exact (calls_cons (CT_s _ _ _ _ _ hn hs' hr2) calls_nil))) rfl ?_ ?_; rotate_left 1)
      · repeat first | refine lwp_seq fun K hK => ?_ | (with_reducible refine gA ?_; apply_assumption -exfalso -symm) | refine Stp.h ?_ | refine gF rfl ?_ | refine gG rfl ?_ | refine gM hC rfl sd ?_
        refine lwp_condS hC rfl sd ?_ ?_ <;> intro hb
        · have hE : ctE m s c n R = ctS m s n R := by rw [hE1, if_pos hb]
          have hN : ctN m s c n R = 0 := by unfold ctN; rw [hE, if_pos hb]
          repeat first | refine lwp_seq fun K hK => ?_ | (with_reducible refine gA ?_; apply_assumption -exfalso -symm) | refine Stp.h ?_ | refine gF rfl ?_ | refine gG rfl ?_ | refine gM hC rfl sd ?_
          (refine end_intro (by first | exact .inr rfl | exact .inl rfl) [(0, some 0), (1, some 1), (2, some 2), (3, some 3)] rfl ?_)
          rw [hN, hE]
          exact sd
        · have hb2 : ctS m s n R = 0 := hb
          have hE2 : ctE m s c n R = if provesS m s c n R = false then 19 else 0 := by rw [hE1, if_neg (by rw [hb2]; decide)]
          have ht := tabOk_of hb2
          have HT := Lib.hid ht
          repeat first | refine lwp_seq fun K hK => ?_ | (with_reducible refine gA ?_; apply_assumption -exfalso -symm) | refine Stp.h ?_ | refine gF rfl ?_ | refine gG rfl ?_ | refine gM hC rfl ⟨⟩ ?_
          (refine lwp_region hC ⟨[], [], [(3, Proves_i m s c n R [(0, some 0), (1, some 1), (2, some 2), (3, some 3)])]⟩ (told1 _ (by rw [hP]; exact (calls_cons (Proves_s _ _ _ _ _ _ hf HT.out) calls_nil))) rfl ?_ ?_; rotate_left 1)
          · repeat first | refine lwp_seq fun K hK => ?_ | (with_reducible refine gA ?_; apply_assumption -exfalso -symm) | refine Stp.h ?_ | refine gF rfl ?_ | refine gG rfl ?_ | refine gM hC rfl sd ?_
            refine lwp_condS hC rfl sd ?_ ?_ <;> intro hb
            · have hp : provesS m s c n R = false := by simpa using hb
              have hE : ctE m s c n R = 19 := by rw [hE2, if_pos hp]
              have hN : ctN m s c n R = 0 := by unfold ctN; rw [hE, if_pos (by decide)]
              repeat first | refine lwp_seq fun K hK => ?_ | (with_reducible refine gA ?_; apply_assumption -exfalso -symm) | refine Stp.h ?_ | refine gF rfl ?_ | refine gG rfl ?_ | refine gM hC rfl sd ?_
              (refine end_intro (by first | exact .inr rfl | exact .inl rfl) [(0, some 0), (1, some 1), (2, some 2), (3, some 3)] rfl ?_)
              rw [hN, hE]
              exact sd
            · have hp : provesS m s c n R = true := by simpa using hb
              have hE : ctE m s c n R = 0 := by rw [hE2, if_neg (by rw [hp]; decide)]
              have hN : ctN m s c n R = bndS m s c R (allP m s).length := by unfold ctN; rw [hE, if_neg (by decide)]
              have HE := Lib.hid hE
              have HN := Lib.hid hN
              have k1 := mul_small (b := (s.length : Int)) hf.c.1 (by have := hf.l.2; omega)
              have hN4 := allP_len hf.l.1 hf.l.2
              have hl2 := hf.l
              have hns := ht.hn
              have hbb := bndS_bound (c := c) hf.c hf.l.2 ht
              have HBB := Lib.hid hbb
              clear hE hN hE1 hE2 ht hb hbb
              repeat first | refine lwp_seq fun K hK => ?_ | (with_reducible refine gA ?_; apply_assumption -exfalso -symm) | refine Stp.h ?_ | refine gF rfl ?_ | refine gG rfl ?_ | refine gM hC rfl sd ?_
              (refine lwp_region hC ⟨[], [], [(1, AllPairs_i m s [(0, some 0), (1, some 1)])]⟩ (told1 _ (by rw [hP]; exact (calls_cons (AllPairs_s _ _ _ hf.l.1 hf.l.2 hf.km hf.ks) calls_nil))) rfl ?_ ?_; rotate_left 1)
              · repeat first | refine lwp_seq fun K hK => ?_ | (with_reducible refine gA ?_; apply_assumption -exfalso -symm) | refine Stp.h ?_ | refine gF rfl ?_ | refine gG rfl ?_ | refine gM hC rfl sd ?_
                refine lwp_loop (fun k : Nat => ⟨[(42, i64 k), (41, i64 (allP m s).length), (40, .sl 7 (allP m s).length), (10, i64 (bndS m s c R k)), (2, .sl 3 n), (3, .ptr 4 0 0 0), (4, .ptr 5 0 0 0)], [(0, .ro m.length 2 (thC m)), (1, .ro s.length 2 (thC s)), (2, roF n R), (3, roT 2 n R), (4, .blk 38 [.sl 0 m.length, .sl 1 s.length]), (5, .blk 40 [i64 c.missed, i64 c.unseen, i64 c.stretch]), (7, .row 75 (allP m s).length 2 (prC (allP m s)))], 8⟩) (fun k => k ≤ (allP m s).length) (fun k => (allP m s).length - k) 0 ⟨?_, sub_intro hm [(0, some 0), (1, some 1), (2, some 2), (3, some 3), (4, some 4), (5, some 5), (7, some 7)] rfl ?_⟩ ?_
                · exact Nat.zero_le _
                · exact sd
                · rintro k hk
                  have e1 : (k : Int).toNat = k := Int.toNat_natCast k
                  repeat first | refine lwp_seq fun K hK => ?_ | (with_reducible refine gA ?_; apply_assumption -exfalso -symm) | refine Stp.h ?_ | refine gF rfl ?_ | refine gG rfl ?_ | refine gM hC rfl sd ?_
                  refine lwp_condS hC rfl sd ?_ ?_ <;> intro hb
                  · have hkl : k < (allP m s).length := by omega
                    have hx : inS m s (prAt (allP m s) k) := allP_in k hkl
                    have hst : bndS m s c R (k + 1) = if ent R (prAt (allP m s) k) + c.missed * (s.length - 1 - (prAt (allP m s) k).1) < bndS m s c R k then ent R (prAt (allP m s) k) + c.missed * (s.length - 1 - (prAt (allP m s) k).1) else bndS m s c R k := rfl
                    have hbk := HBB.out k hk
                    repeat first | refine lwp_seq fun K hK => ?_ | (with_reducible refine gA ?_; apply_assumption -exfalso -symm) | refine Stp.h ?_ | refine gF rfl ?_ | refine gG rfl ?_ | refine gM hC rfl sd ?_
                    simp only [e1]
                    have hpa : (allP m s).getD k (0, 0) = prAt (allP m s) k := rfl
                    obtain ⟨p, hpe⟩ : ∃ p, prAt (allP m s) k = p := ⟨_, rfl⟩
                    rw [hpe] at hx hst hpa
                    simp only [hpa]
                    have hxi := hx
                    obtain ⟨⟨h1, h2⟩, h3, h4⟩ := hx
                    have hex := HT.out.ent hxi
                    have hxl := HT.out.hlen p.1.toNat (by omega)
                    have hed : (R p.1.toNat).getD p.2.toNat 0 = ent R p := rfl
                    have k2 := mul_small (b := (s.length : Int) - 1 - p.1) hf.c.1 (by have := hl2.2; omega)
                    have HST := Lib.hid hst
                    clear hst
                    (refine lwp_drawn2 hC (by rw [hP]; exact mixed) ⟨[], [(15, custIx)], [(14, Ends_i m s c p p [(0, some 0), (1, some 1)])]⟩ ⟨(fun p hp => by rcases List.mem_cons.1 hp with rfl | hp; rw [hP]; exact custIx_ok; cases hp), (by rw [hP]; exact (calls_cons (Ends_s _ _ _ _ _ _ hf.c hl2.2 hxi hxi) calls_nil))⟩ [0, 0, 0, 4, 14, 30, 0, 64, 254, 510, 0, 0, 0, 0, 15360, 31744, 65534, 131071, 262143] 18 0 rfl ?_ ?_; rotate_left 1)
                    · rw [hed]
                      repeat first | refine lwp_seq fun K hK => ?_ | (with_reducible refine gA ?_; apply_assumption -exfalso -symm) | refine Stp.h ?_ | refine gF rfl ?_ | refine gG rfl ?_ | refine gM hC rfl sd ?_
                      refine gA ⟨k + 1, ?_, ?_, sub_intro hm [(0, some 0), (1, some 1), (2, some 2), (3, some 3), (4, some 4), (5, some 5), (7, some 7)] rfl ?_⟩
                      · omega
                      · omega
                      · rw [HST.out]
                        exact sd
                    · simp only [hed]
                      exact sd
                  · obtain rfl : k = (allP m s).length := by omega
                    repeat first | refine lwp_seq fun K hK => ?_ | (with_reducible refine gA ?_; apply_assumption -exfalso -symm) | refine Stp.h ?_ | refine gF rfl ?_ | refine gG rfl ?_ | refine gM hC rfl sd ?_
                    (refine end_intro (by first | exact .inr rfl | exact .inl rfl) [(0, some 0), (1, some 1), (2, some 2), (3, some 3)] rfl ?_)
                    rw [HN.out, HE.out]
                    exact sd
              · exact sd
          · exact sd
      · exact sd
  · exact sd

end Go.Proofs.YtfmnfagcbehmdaaGreatDoor
