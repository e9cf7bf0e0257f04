/- Chapter 5: the least alignment, the program's. -/
import Derived.Test.YtfmnfagcbehmdaaGreatDoorJc
import Derived.Test.YtfmnfagcbehmdaaGreatDoorDg
set_option linter.unusedVariables false
set_option linter.unusedSimpArgs false
namespace Go.Proofs.YtfmnfagcbehmdaaGreatDoor
open Go.RowKit Go.Sym

theorem nameOk_small {x : ByteArray} (h : nameOk x = true) : x.size ≤ maxLen := by
  unfold nameOk at h
  simp only [Bool.and_eq_true, decide_eq_true_eq] at h
  have := h.2.2
  unfold maxLen
  omega
theorem betterS_le {a b c d : Int} (h : betterS a b c d = true) : a ≤ c := by
  unfold betterS at h
  by_cases e1 : a < c
  · omega
  · by_cases e2 : a = c
    · omega
    · simp [e1, e2] at h
theorem kinds_ok {l : List Th} (h : checkS l = 0) (k : Nat) : (l.getD k thD).kind.size ≤ maxLen := by
  unfold checkS at h
  split at h
  · cases h
  · rw [List.getD_eq_getElem?_getD]
    cases hi : l[k]? with
    | none => exact Nat.zero_le _
    | some x => exact nameOk_small (thingsS_zero h x (List.mem_of_getElem? hi)).1

/-- The best beginning of an alignment, of the first k states: its cost, how many pairs it has, its first state. -/
structure Hd where
  cost : Int
  many : Int
  next : Int
def headB (s : List Th) (c : Cs) (L : List St) : Nat → Hd
  | 0 => ⟨c.missed * s.length, 0, -1⟩
  | k + 1 => if betterS (c.missed * (stAt L k).p.1 + (stAt L k).cost) ((stAt L k).many + 1) (headB s c L k).cost (headB s c L k).many = true then ⟨c.missed * (stAt L k).p.1 + (stAt L k).cost, (stAt L k).many + 1, k⟩ else headB s c L k
/-- Where a chain of states is behind k steps. -/
def nextK (L : List St) (a : Int) : Nat → Int
  | 0 => a
  | k + 1 => (stAt L (nextK L a k).toNat).next
def pairK (L : List St) (a : Int) : Nat → List (Int × Int)
  | 0 => []
  | k + 1 => pairK L a k ++ [(stAt L (nextK L a k).toNat).p]
/-- The pairs of a chain. -/
def chainP (L : List St) : Nat → Int → List (Int × Int)
  | 0, _ => []
  | f + 1, a => if 0 ≤ a then (stAt L a.toNat).p :: chainP L f (stAt L a.toNat).next else []
theorem pairK_length (L : List St) (a : Int) (k : Nat) : (pairK L a k).length = k := by
  induction k with
  | zero => rfl
  | succ k ih => simp [pairK, ih]
theorem chainP_steps (L : List St) (a : Int) : ∀ (k f : Nat), (∀ i, i < k → 0 ≤ nextK L a i) → chainP L (f + k) a = pairK L a k ++ chainP L f (nextK L a k)
  | 0, f, _ => rfl
  | k + 1, f, h => by
    rw [show f + (k + 1) = (f + 1) + k by omega, chainP_steps L a k (f + 1) (fun i hi => h i (by omega)), pairK, List.append_assoc]
    congr 1
    simp only [chainP]
    rw [if_pos (h k (by omega))]
    rfl

theorem headB_ok {m s : List Th} {c : Cs} {n : Nat} {L : List St} (hc : csOk c) (hs : s.length ≤ 64) (h : BOk m s n L) : ∀ k, k ≤ n → (0 ≤ (headB s c L k).cost ∧ (headB s c L k).cost ≤ 64000) ∧ (0 ≤ (headB s c L k).many ∧ (headB s c L k).many ≤ n) ∧ ((headB s c L k).next = -1 ∨ (0 ≤ (headB s c L k).next ∧ (headB s c L k).next < n))
  | 0, _ => by
    have h1 := Int.mul_nonneg hc.1.1 (show (0 : Int) ≤ s.length by omega)
    have h2 := Int.mul_le_mul hc.1.2 (show (s.length : Int) ≤ 64 by omega) (by omega) (by decide)
    exact ⟨⟨h1, by show c.missed * _ ≤ _; omega⟩, ⟨by show (0 : Int) ≤ 0; omega, by show (0 : Int) ≤ _; omega⟩, .inl rfl⟩
  | k + 1, hk => by
    obtain ⟨i1, i2, i3⟩ := headB_ok hc hs h k (by omega)
    simp only [headB]
    split
    · rename_i hb
      obtain ⟨a1, a2, a3, a4⟩ := h.2 k (by omega)
      have h1 := Int.mul_nonneg hc.1.1 a1.1.1
      have h3 : c.missed * (stAt L k).p.1 + (stAt L k).cost ≤ (headB s c L k).cost := betterS_le hb
      exact ⟨⟨by show 0 ≤ c.missed * _ + _; omega, by show c.missed * _ + _ ≤ _; omega⟩, ⟨by show 0 ≤ _ + 1; omega, by show _ + 1 ≤ _; omega⟩, .inr ⟨by show (0 : Int) ≤ k; omega, by show (k : Int) < n; omega⟩⟩
    · exact ⟨i1, i2, i3⟩
theorem nextK_ok {m s : List Th} {n : Nat} {L : List St} {a : Int} (h : BOk m s n L) (ha : a = -1 ∨ (0 ≤ a ∧ a < n)) : ∀ k, (∀ i, i < k → 0 ≤ nextK L a i) → nextK L a k = -1 ∨ ((k : Int) ≤ nextK L a k ∧ nextK L a k < n)
  | 0, _ => by
    rcases ha with ha | ha
    · exact .inl ha
    · exact .inr ⟨by show ((0 : Nat) : Int) ≤ a; omega, ha.2⟩
  | k + 1, hk => by
    have h0 := hk k (by omega)
    rcases nextK_ok h ha k (fun i hi => hk i (by omega)) with h1 | h1
    · omega
    · obtain ⟨_, _, _, a4⟩ := h.2 (nextK L a k).toNat (by omega)
      rcases a4 with a4 | a4
      · exact .inl a4
      · exact .inr ⟨by show ((k + 1 : Nat) : Int) ≤ (stAt L (nextK L a k).toNat).next; omega, a4.2⟩

def headS (m s : List Th) (c : Cs) : Hd := headB s c (behindS m s c) (allP m s).length
def alignP (m s : List Th) (c : Cs) : List (Int × Int) := chainP (behindS m s c) ((allP m s).length + 1) (headS m s c).next
def aligE (m s : List Th) (c : Cs) : Int := firstS [rideS m s, costsS c.missed c.unseen c.stretch]
def aligL (m s : List Th) (c : Cs) : List (Int × Int) := if aligE m s c ≠ 0 then [] else alignP m s c
def aligN (m s : List Th) (c : Cs) : Int := if aligE m s c ≠ 0 then 0 else (headS m s c).cost
structure AFit (m s : List Th) (c : Cs) : Prop where
  c : csOk c
  l : m.length ≤ 64 ∧ s.length ≤ 64
  pm : placesOk m
  ps : placesOk s
  km : ∀ k, (m.getD k thD).kind.size ≤ maxLen
  ks : ∀ k, (s.getD k thD).kind.size ≤ maxLen
theorem afit_of {m s : List Th} {c : Cs} (h : aligE m s c = 0) : AFit m s c := by
  unfold aligE at h
  rw [firstS_cons, firstS_cons] at h
  obtain ⟨h4, h5⟩ := rideS_zero h.1
  exact ⟨costsS_zero.1 h.2.1, ⟨(checkS_zero h4).1, (checkS_zero h5).1⟩, (checkS_zero h4).2, (checkS_zero h5).2, kinds_ok h4, kinds_ok h5⟩

def Aligned_i (m s : List Th) (c : Cs) (σ : Ren) : Inst := { f := 12, hin := rideIn m s, args := [rdA m s, csA c], hout := [(2, .row 75 (aligL m s c).length 2 (prC (aligL m s c)))], ret := .tup [.sl 2 (aligL m s c).length, i64 (aligN m s c), i64 (aligE m s c)], σ := σ }
set_option maxRecDepth 20000 in
set_option maxHeartbeats 4000000 in
theorem Aligned_s (m s : List Th) (c : Cs) (σ : Ren) (hm' : m.length ≤ 1000000) (hs : s.length ≤ 1000000) : (Aligned_i m s c σ).ok Tryz.prog := by
  unfold Aligned_i Inst.ok; dsimp only; refine spec_of_body (tys := tys) 2 Tryz.func12 (by kernel_rfl) rfl tys_ok rfl (Nat.le_of_ble_eq_true rfl) (fun _ _ h => (by cases h)) fun F hP hm hC hrd => ?_; conv => whnf
  repeat first | refine lwp_seq fun K hK => ?_ | ((with_reducible refine gA ?_); apply_assumption -exfalso -symm) | refine gB ?_ | refine gC ?_ | refine gD ?_ | refine gE ?_ | refine gF rfl ?_ | refine gG rfl ?_ | refine gH ?_ | refine gI ?_ | refine gJ ?_ | refine gK ?_ | refine gL ?_ | refine gM hC rfl ⟨⟩ ?_ | refine gM hC rfl (by exact sd) ?_
  (refine lwp_drawn hC (by rw [hP]; exact mixed) ⟨[], [], [(1, Ride_i m s [(0, some 0), (1, some 1)]), (3, Costs_i c.missed c.unseen c.stretch), (5, AFirst_i [rideS m s, costsS c.missed c.unseen c.stretch] [(0, some 4)])]⟩ (told1 _ (by rw [hP]; exact (calls_cons (Ride_s _ _ _ hm' hs) (calls_cons (Costs_s _ _ _) (calls_cons (AFirst_s _ _ (by simp)) calls_nil))))) [0, 1, 0, 7, 15, 31, 63] 3 rfl ?_ ?_; rotate_left 1)
  · repeat first | refine lwp_seq fun K hK => ?_ | ((with_reducible refine gA ?_); apply_assumption -exfalso -symm) | refine gB ?_ | refine gC ?_ | refine gD ?_ | refine gE ?_ | refine gF rfl ?_ | refine gG rfl ?_ | refine gH ?_ | refine gI ?_ | refine gJ ?_ | refine gK ?_ | refine gL ?_ | refine gM hC rfl ⟨⟩ ?_ | refine gM hC rfl (by exact sd) ?_
    (refine lwp_cond hC rfl (by first | exact ⟨⟩ | exact sd) (fun hb => ?_) (fun hb => ?_) <;> (try simp only [decide_eq_true_eq, decide_eq_false_iff_not, Bool.not_eq_true', Bool.not_eq_false', ne_eq, Decidable.not_not] at hb))
    · have hb' : aligE m s c ≠ 0 := hb
      rw [show aligL m s c = [] from if_pos hb', show aligN m s c = 0 from if_pos hb']
      repeat first | refine lwp_seq fun K hK => ?_ | ((with_reducible refine gA ?_); apply_assumption -exfalso -symm) | refine gB ?_ | refine gC ?_ | refine gD ?_ | refine gE ?_ | refine gF rfl ?_ | refine gG rfl ?_ | refine gH ?_ | refine gI ?_ | refine gJ ?_ | refine gK ?_ | refine gL ?_ | refine gM hC rfl ⟨⟩ ?_ | refine gM hC rfl (by exact sd) ?_
      (refine end_intro (by first | exact .inr rfl | exact .inl rfl) [(2, none)] rfl ?_)
      exact sd
    · have hb' : aligE m s c = 0 := hb
      have hf := afit_of hb'
      have hAL : aligL m s c = alignP m s c := if_neg (by rw [hb']; decide)
      have hAN : aligN m s c = (headS m s c).cost := if_neg (by rw [hb']; decide)
      have HAL := Lib.hid hAL
      have HAN := Lib.hid hAN
      clear hAL hAN
      repeat first | refine lwp_seq fun K hK => ?_ | ((with_reducible refine gA ?_); apply_assumption -exfalso -symm) | refine gB ?_ | refine gC ?_ | refine gD ?_ | refine gE ?_ | refine gF rfl ?_ | refine gG rfl ?_ | refine gH ?_ | refine gI ?_ | refine gJ ?_ | refine gK ?_ | refine gL ?_ | refine gM hC rfl ⟨⟩ ?_
      (refine lwp_region hC ⟨[], [], [(2, Behind_i m s c [(0, some 0), (1, some 1)])]⟩ (told1 _ (by rw [hP]; exact (calls_cons (Behind_s _ _ _ _ hf.c hf.l hf.pm hf.ps hf.km hf.ks) calls_nil))) rfl ?_ ?_; rotate_left 1)
      · have hN4 := allP_len hf.l.1 hf.l.2
        have hBk : BOk m s (allP m s).length (behindS m s c) := behB_ok hf.c (last_ok hf.c hf.l.2 (fun i hi => allP_in i hi)) _ (Nat.le_refl _)
        obtain ⟨L, hL⟩ : ∃ L, behindS m s c = L := ⟨_, rfl⟩
        have hHd : headS m s c = headB s c L (allP m s).length := by rw [← hL]; rfl
        have hAp : alignP m s c = chainP L ((allP m s).length + 1) (headB s c L (allP m s).length).next := by rw [← hL]; rfl
        rw [hL] at hBk ⊢
        have hH := headB_ok hf.c hf.l.2 hBk
        have HHD := Lib.hid hHd
        have HAP := Lib.hid hAp
        have k1 := mul_small (b := (s.length : Int)) hf.c.1 (by have := hf.l.2; omega)
        have HB := Lib.hid hBk
        have HH := Lib.hid hH
        have hl2 := hf.l
        clear hHd hAp hBk hH hL
        repeat first | refine lwp_seq fun K hK => ?_ | ((with_reducible refine gA ?_); apply_assumption -exfalso -symm) | refine gB ?_ | refine gC ?_ | refine gD ?_ | refine gE ?_ | refine gF rfl ?_ | refine gG rfl ?_ | refine gH ?_ | refine gI ?_ | refine gJ ?_ | refine gK ?_ | refine gL ?_ | refine gM hC rfl ⟨⟩ ?_ | refine gM hC rfl (by exact sd) ?_
        refine lwp_loop (fun k : Nat => ⟨[(36, i64 k), (35, i64 (allP m s).length), (34, .sl 4 (allP m s).length), (8, .sl 4 (allP m s).length), (9, i64 (headB s c L k).cost), (10, i64 (headB s c L k).many), (11, i64 (headB s c L k).next), (2, .ptr 2 0 0 0), (3, .ptr 3 0 0 0)], [(4, .row 141 (allP m s).length 5 (stC L)), (0, .ro m.length 2 (thC m)), (1, .ro s.length 2 (thC s)), (2, .blk 38 [.sl 0 m.length, .sl 1 s.length]), (3, .blk 40 [i64 c.missed, i64 c.unseen, i64 c.stretch])], 5⟩) (fun k => k ≤ (allP m s).length) (fun k => (allP m s).length - k) 0 ⟨?_, sub_intro hm [(0, some 0), (1, some 1), (2, some 2), (3, some 3), (4, some 5)] rfl ?_⟩ ?_
        · exact Nat.zero_le _
        · exact sd
        · rintro k hk
          have e1 : (k : Int).toNat = k := Int.toNat_natCast k
          repeat first | refine lwp_seq fun K hK => ?_ | ((with_reducible refine gA ?_); apply_assumption -exfalso -symm) | refine gB ?_ | refine gC ?_ | refine gD ?_ | refine gE ?_ | refine gF rfl ?_ | refine gG rfl ?_ | refine gH ?_ | refine gI ?_ | refine gJ ?_ | refine gK ?_ | refine gL ?_ | refine gM hC rfl ⟨⟩ ?_ | refine gM hC rfl (by exact sd) ?_
          (refine lwp_cond hC rfl (by first | exact ⟨⟩ | exact sd) (fun hb => ?_) (fun hb => ?_) <;> (try simp only [decide_eq_true_eq, decide_eq_false_iff_not, Bool.not_eq_true', Bool.not_eq_false', ne_eq, Decidable.not_not] at hb))
          · have hRl := HB.out.1
            repeat first | refine lwp_seq fun K hK => ?_ | ((with_reducible refine gA ?_); apply_assumption -exfalso -symm) | refine gB ?_ | refine gC ?_ | refine gD ?_ | refine gE ?_ | refine gF rfl ?_ | refine gG rfl ?_ | refine gH ?_ | refine gI ?_ | refine gJ ?_ | refine gK ?_ | refine gL ?_ | refine gM hC rfl ⟨⟩ ?_ | refine gM hC rfl (by exact sd) ?_
            rw [e1]
            have hx : StOk m s (allP m s).length k (L.getD k stD) := HB.out.2 k (by omega)
            have hst : headB s c L (k + 1) = if betterS (c.missed * (L.getD k stD).p.1 + (L.getD k stD).cost) ((L.getD k stD).many + 1) (headB s c L k).cost (headB s c L k).many = true then ⟨c.missed * (L.getD k stD).p.1 + (L.getD k stD).cost, (L.getD k stD).many + 1, k⟩ else headB s c L k := rfl
            obtain ⟨x, hxe⟩ : ∃ x, L.getD k stD = x := ⟨_, rfl⟩
            rw [hxe] at hx hst ⊢
            obtain ⟨hxi, ⟨x5, x6⟩, ⟨x7, x8⟩, x9⟩ := hx
            obtain ⟨⟨h1, h2⟩, ⟨h3, h4⟩, _⟩ := HH.out k hk
            have k2 := mul_small (b := x.p.1) hf.c.1 (by have := hxi.1; omega)
            have HST := Lib.hid hst
            clear hst hxe
            (refine lwp_drawn hC (by rw [hP]; exact mixed) ⟨[], [(7, custIx)], [(6, Ends_i m s c x.p x.p [(0, some 0), (1, some 1)])]⟩ ⟨(fun p hp => by rcases List.mem_cons.1 hp with rfl | hp; rw [hP]; exact custIx_ok; cases hp), (by rw [hP]; exact (calls_cons (Ends_s _ _ _ _ _ _ hf.c hl2.2 hxi hxi) calls_nil))⟩ [0, 0, 0, 4, 0, 16, 63, 127, 0, 256, 1023, 2047] 10 rfl ?_ ?_; rotate_left 1)
            · repeat first | refine lwp_seq fun K hK => ?_ | ((with_reducible refine gA ?_); apply_assumption -exfalso -symm) | refine gB ?_ | refine gC ?_ | refine gD ?_ | refine gE ?_ | refine gF rfl ?_ | refine gG rfl ?_ | refine gH ?_ | refine gI ?_ | refine gJ ?_ | refine gK ?_ | refine gL ?_ | refine gM hC rfl ⟨⟩ ?_ | refine gM hC rfl (by exact sd) ?_
              (refine lwp_region hC ⟨[], [], [(6, Better_i (c.missed * x.p.1 + x.cost) (x.many + 1) (headB s c L k).cost (headB s c L k).many [])]⟩ (told1 _ (by rw [hP]; exact (calls_cons (Better_s _ _ _ _ _) calls_nil))) rfl ?_ ?_; rotate_left 1)
              · repeat first | refine lwp_seq fun K hK => ?_ | ((with_reducible refine gA ?_); apply_assumption -exfalso -symm) | refine gB ?_ | refine gC ?_ | refine gD ?_ | refine gE ?_ | refine gF rfl ?_ | refine gG rfl ?_ | refine gH ?_ | refine gI ?_ | refine gJ ?_ | refine gK ?_ | refine gL ?_ | refine gM hC rfl ⟨⟩ ?_ | refine gM hC rfl (by exact sd) ?_
                (refine lwp_cond hC rfl (by first | exact ⟨⟩ | exact sd) (fun hb => ?_) (fun hb => ?_) <;> (try simp only [decide_eq_true_eq, decide_eq_false_iff_not, Bool.not_eq_true', Bool.not_eq_false', ne_eq, Decidable.not_not] at hb))
                · have hst : headB s c L (k + 1) = ⟨c.missed * x.p.1 + x.cost, x.many + 1, k⟩ := by rw [HST.out, if_pos (show betterS (c.missed * x.p.1 + x.cost) (x.many + 1) (headB s c L k).cost (headB s c L k).many = true from hb)]
                  repeat first | refine lwp_seq fun K hK => ?_ | ((with_reducible refine gA ?_); apply_assumption -exfalso -symm) | refine gB ?_ | refine gC ?_ | refine gD ?_ | refine gE ?_ | refine gF rfl ?_ | refine gG rfl ?_ | refine gH ?_ | refine gI ?_ | refine gJ ?_ | refine gK ?_ | refine gL ?_ | refine gM hC rfl ⟨⟩ ?_ | refine gM hC rfl (by exact sd) ?_
                  (refine lwp_drawn hC (by rw [hP]; exact mixed) ⟨[], [], []⟩ (told0 _ _) [0, 0, 2, 6, 0, 1, 47, 127] 7 rfl ?_ ?_; rotate_left 1)
                  · repeat first | refine lwp_seq fun K hK => ?_ | ((with_reducible refine gA ?_); apply_assumption -exfalso -symm) | refine gB ?_ | refine gC ?_ | refine gD ?_ | refine gE ?_ | refine gF rfl ?_ | refine gG rfl ?_ | refine gH ?_ | refine gI ?_ | refine gJ ?_ | refine gK ?_ | refine gL ?_ | refine gM hC rfl ⟨⟩ ?_ | refine gM hC rfl (by exact sd) ?_
                    refine gA ⟨k + 1, ?_, ?_, sub_intro hm [(0, some 0), (1, some 1), (2, some 2), (3, some 3), (4, some 4)] rfl ?_⟩
                    · omega
                    · omega
                    · rw [hst]
                      exact sd
                  · exact sd
                · have hst : headB s c L (k + 1) = headB s c L k := by rw [HST.out, if_neg (by rw [show betterS (c.missed * x.p.1 + x.cost) (x.many + 1) (headB s c L k).cost (headB s c L k).many = false from hb]; decide)]
                  repeat first | refine lwp_seq fun K hK => ?_ | ((with_reducible refine gA ?_); apply_assumption -exfalso -symm) | refine gB ?_ | refine gC ?_ | refine gD ?_ | refine gE ?_ | refine gF rfl ?_ | refine gG rfl ?_ | refine gH ?_ | refine gI ?_ | refine gJ ?_ | refine gK ?_ | refine gL ?_ | refine gM hC rfl ⟨⟩ ?_ | refine gM hC rfl (by exact sd) ?_
                  refine gA ⟨k + 1, ?_, ?_, sub_intro hm [(0, some 0), (1, some 1), (2, some 2), (3, some 3), (4, some 4)] rfl ?_⟩
                  · omega
                  · omega
                  · rw [hst]
                    exact sd
              · exact sd
            · exact sd
          · obtain rfl : k = (allP m s).length := by omega
            obtain ⟨h, hh⟩ : ∃ h, headB s c L (allP m s).length = h := ⟨_, rfl⟩
            have hhd := HH.out _ hk
            have hap := HAP.out
            rw [hh] at hhd hap ⊢
            have hnk : ∀ k, (∀ i, i < k → 0 ≤ nextK L h.next i) → nextK L h.next k = -1 ∨ ((k : Int) ≤ nextK L h.next k ∧ nextK L h.next k < (allP m s).length) := nextK_ok HB.out hhd.2.2
            have HNK := Lib.hid hnk
            have HAP2 := Lib.hid hap
            have hHC : (headS m s c).cost = h.cost := by rw [HHD.out, hh]
            clear hnk hap hh
            repeat first | refine lwp_seq fun K hK => ?_ | ((with_reducible refine gA ?_); apply_assumption -exfalso -symm) | refine gB ?_ | refine gC ?_ | refine gD ?_ | refine gE ?_ | refine gF rfl ?_ | refine gG rfl ?_ | refine gH ?_ | refine gI ?_ | refine gJ ?_ | refine gK ?_ | refine gL ?_ | refine gM hC rfl ⟨⟩ ?_ | refine gM hC rfl (by exact sd) ?_
            refine lwp_loop (fun k : Nat => ⟨[(15, .sl 5 k), (11, i64 (nextK L h.next k)), (8, .sl 4 (allP m s).length), (9, i64 h.cost)], [(5, .row 75 k 2 (prC (pairK L h.next k))), (4, .row 141 (allP m s).length 5 (stC L)), (0, .ro m.length 2 (thC m)), (1, .ro s.length 2 (thC s)), (2, .blk 38 [.sl 0 m.length, .sl 1 s.length]), (3, .blk 40 [i64 c.missed, i64 c.unseen, i64 c.stretch])], 6⟩) (fun k => k ≤ (allP m s).length ∧ ∀ i, i < k → 0 ≤ nextK L h.next i) (fun k => (allP m s).length - k) 0 ⟨?_, sub_intro hm [(0, some 0), (1, some 1), (2, some 2), (3, some 3), (4, some 4), (5, none)] rfl ?_⟩ ?_
            · exact ⟨Nat.zero_le _, fun i hi => absurd hi (Nat.not_lt_zero _)⟩
            · exact sd
            · rintro k ⟨hk, hki⟩
              have hkk := HNK.out k hki
              repeat first | refine lwp_seq fun K hK => ?_ | ((with_reducible refine gA ?_); apply_assumption -exfalso -symm) | refine gB ?_ | refine gC ?_ | refine gD ?_ | refine gE ?_ | refine gF rfl ?_ | refine gG rfl ?_ | refine gH ?_ | refine gI ?_ | refine gJ ?_ | refine gK ?_ | refine gL ?_ | refine gM hC rfl ⟨⟩ ?_ | refine gM hC rfl (by exact sd) ?_
              (refine lwp_cond hC rfl (by first | exact ⟨⟩ | exact sd) (fun hb => ?_) (fun hb => ?_) <;> (try simp only [decide_eq_true_eq, decide_eq_false_iff_not, Bool.not_eq_true', Bool.not_eq_false', ne_eq, Decidable.not_not] at hb))
              · have hRl := HB.out.1
                obtain ⟨hk1, hk2⟩ : (k : Int) ≤ nextK L h.next k ∧ nextK L h.next k < (allP m s).length := by rcases hkk with e | e <;> omega
                have hsn : nextK L h.next (k + 1) = (L.getD (nextK L h.next k).toNat stD).next := rfl
                have hpn : pairK L h.next (k + 1) = pairK L h.next k ++ [(L.getD (nextK L h.next k).toNat stD).p] := rfl
                have hki' : ∀ i, i < k + 1 → 0 ≤ nextK L h.next i := fun i hi => by
                  rcases Nat.lt_succ_iff_lt_or_eq.1 hi with hi | rfl
                  · exact hki i hi
                  · exact hb
                have HSN := Lib.hid hsn
                have HPN := Lib.hid hpn
                have HKI := Lib.hid hki'
                clear hsn hpn hki hki'
                repeat first | refine lwp_seq fun K hK => ?_ | ((with_reducible refine gA ?_); apply_assumption -exfalso -symm) | refine gB ?_ | refine gC ?_ | refine gD ?_ | refine gE ?_ | refine gF rfl ?_ | refine gG rfl ?_ | refine gH ?_ | refine gI ?_ | refine gJ ?_ | refine gK ?_ | refine gL ?_ | refine gM hC rfl ⟨⟩ ?_ | refine gM hC rfl (by exact sd) ?_
                refine gA ⟨k + 1, ?_, ?_, sub_intro hm [(0, some 0), (1, some 1), (2, some 2), (3, some 3), (4, some 4), (5, some 7)] rfl ?_⟩
                · exact ⟨by omega, HKI.out⟩
                · omega
                · have e := prC_snoc (pairK L h.next k) (L.getD (nextK L h.next k).toNat stD).p
                  rw [← HPN.out] at e
                  have e2 : (prC (pairK L h.next (k + 1))).cells = (catC (prC (pairK L h.next k)) (Cont.exp [.lit (.int .i64 (L.getD (nextK L h.next k).toNat stD).p.1), .lit (.int .i64 (L.getD (nextK L h.next k).toNat stD).p.2)])).cells := by
                    rw [catC_cells, e]; rfl
                  rw [HSN.out]
                  exact sd
              · have hat : nextK L h.next k = -1 := by rcases hkk with e | e <;> omega
                have hfin : aligL m s c = pairK L h.next k := by
                  rw [HAL.out, HAP2.out, show (allP m s).length + 1 = ((allP m s).length + 1 - k) + k by omega, chainP_steps L h.next k _ hki, hat]
                  cases (allP m s).length + 1 - k <;> simp [chainP]
                have hfl : (aligL m s c).length = k := by rw [hfin, pairK_length]
                have HFI := Lib.hid hfin
                have HFL := Lib.hid hfl
                clear hfin hfl hki
                repeat first | refine lwp_seq fun K hK => ?_ | ((with_reducible refine gA ?_); apply_assumption -exfalso -symm) | refine gB ?_ | refine gC ?_ | refine gD ?_ | refine gE ?_ | refine gF rfl ?_ | refine gG rfl ?_ | refine gH ?_ | refine gI ?_ | refine gJ ?_ | refine gK ?_ | refine gL ?_ | refine gM hC rfl ⟨⟩ ?_ | refine gM hC rfl (by exact sd) ?_
                rw [HFL.out, HFI.out]
                (refine end_intro (by first | exact .inr rfl | exact .inl rfl) [(2, some 5)] rfl ?_)
                rw [HAN.out, hHC, hb']
                exact sd
      · exact sd
  · exact sd

end Go.Proofs.YtfmnfagcbehmdaaGreatDoor
