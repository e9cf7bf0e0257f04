/- Chapter 5: the states of the pairs of a ride, with the least cost of what comes behind each. -/
import Derived.Test.YtfmnfagcbehmdaaGreatDoorJb
set_option linter.unusedVariables false
set_option linter.unusedSimpArgs false
namespace Go.Proofs.YtfmnfagcbehmdaaGreatDoor
open Go.RowKit Go.Sym

def newSt (m s : List Th) (c : Cs) (a b : St) (k : Nat) : St := ⟨a.p, grownS m s c a.p b.p + b.cost, b.many + 1, k⟩
def skipS (a b : St) : Bool := bif decide (b.p.1 ≤ a.p.1) then true else decide (b.p.2 ≤ a.p.2)
def takeS (m s : List Th) (c : Cs) (a b : St) : Bool := betterS (grownS m s c a.p b.p + b.cost) (b.many + 1) a.cost a.many
def stepB (m s : List Th) (c : Cs) (l : List St) (i k : Nat) : List St :=
  if skipS (stAt l i) (stAt l k) = true then l else if takeS m s c (stAt l i) (stAt l k) = true then l.set i (newSt m s c (stAt l i) (stAt l k) k) else l
def rowB (m s : List Th) (c : Cs) (l : List St) (i : Nat) : Nat → List St
  | 0 => l
  | q + 1 => stepB m s c (rowB m s c l i q) i (i + 1 + q)
def behB (m s : List Th) (c : Cs) (l : List St) : Nat → List St
  | 0 => l
  | j + 1 => rowB m s c (behB m s c l j) (l.length - 1 - j) j
def behindS (m s : List Th) (c : Cs) : List St := behB m s c ((allP m s).map (lastS s c)) (allP m s).length

/-- Three fields of a state are written, one behind the other. -/
theorem stC_set3 (R : List St) (i : Nat) (a t : St) (x y z : Int) (hi : i < R.length) (ha : R.getD i stD = a) (hp : t.p = a.p) (hx : t.cost = x) (hy : t.many = y) (hz : t.next = z) :
    (stC (R.set i t)).cells = (Cont.gen R.length 5 fun q => if q = i then lay ((fun q => if q = i then lay ((fun q => if q = i then lay ((fun k => stV (R.getD k stD)) i) 2 [.int .i64 x] else (fun k => stV (R.getD k stD)) q) i) 3 [.int .i64 y] else (fun q => if q = i then lay ((fun k => stV (R.getD k stD)) i) 2 [.int .i64 x] else (fun k => stV (R.getD k stD)) q) q) i) 4 [.int .i64 z] else (fun q => if q = i then lay ((fun q => if q = i then lay ((fun k => stV (R.getD k stD)) i) 2 [.int .i64 x] else (fun k => stV (R.getD k stD)) q) i) 3 [.int .i64 y] else (fun q => if q = i then lay ((fun k => stV (R.getD k stD)) i) 2 [.int .i64 x] else (fun k => stV (R.getD k stD)) q) q) q).cells := by
  unfold stC genL
  rw [List.length_set]
  refine gen_congr fun q hq => ?_
  dsimp only
  rw [if_pos rfl, if_pos rfl, ha]
  by_cases h : q = i
  · subst h
    rw [if_pos rfl]
    have e : (R.set q t).getD q stD = t := by simp [hi]
    rw [e]
    obtain ⟨p, c0, m0, n0⟩ := t
    cases hp; cases hx; cases hy; cases hz
    rfl
  · rw [if_neg h, if_neg h, if_neg h]
    have e : (R.set i t).getD q stD = R.getD q stD := by simp [List.getD, List.getElem?_set_ne (Ne.symm h)]
    rw [e]

/-- What holds of a state. -/
def StOk (m s : List Th) (n i : Nat) (t : St) : Prop := inS m s t.p ∧ (0 ≤ t.cost ∧ t.cost ≤ 64000) ∧ (0 ≤ t.many ∧ t.many ≤ (n : Int) - 1 - i) ∧ (t.next = -1 ∨ ((i : Int) < t.next ∧ t.next < n))
def BOk (m s : List Th) (n : Nat) (l : List St) : Prop := l.length = n ∧ ∀ i, i < n → StOk m s n i (stAt l i)
theorem skipS_no {a b : St} (h : ¬ skipS a b = true) : a.p.1 < b.p.1 ∧ a.p.2 < b.p.2 := by
  unfold skipS at h
  by_cases h1 : b.p.1 ≤ a.p.1 <;> by_cases h2 : b.p.2 ≤ a.p.2 <;> simp [h1, h2] at h
  omega
theorem grownS_nonneg {m s : List Th} {c : Cs} {a b : Int × Int} (hc : csOk c) (h1 : a.1 < b.1) (h2 : a.2 < b.2) : 0 ≤ grownS m s c a b := by
  obtain ⟨hc1, hc2, hc3⟩ := hc
  unfold grownS
  have k1 := Int.mul_nonneg hc1.1 (show 0 ≤ b.1 - a.1 - 1 by omega)
  have k2 := Int.mul_nonneg hc2.1 (show 0 ≤ b.2 - a.2 - 1 by omega)
  have k3 := Int.mul_nonneg hc3.1 (show 0 ≤ max ((thAt m b.2).place - (thAt m a.2).place - ((thAt s b.1).place - (thAt s a.1).place)) ((thAt s b.1).place - (thAt s a.1).place - ((thAt m b.2).place - (thAt m a.2).place)) by omega)
  omega
theorem grownS_small {m s : List Th} {c : Cs} {a b : Int × Int} (hc : csOk c) (hl : m.length ≤ 64 ∧ s.length ≤ 64) (hpm : placesOk m) (hps : placesOk s) (ha : inS m s a) (hb : inS m s b) : -12000000000000 ≤ grownS m s c a b ∧ grownS m s c a b ≤ 12000000000000 := by
  obtain ⟨⟨h1, h2⟩, h3, h4⟩ := ha
  obtain ⟨⟨h5, h6⟩, h7, h8⟩ := hb
  obtain ⟨hc1, hc2, hc3⟩ := hc
  have p1 := hpm a.2; have p2 := hpm b.2; have p3 := hps a.1; have p4 := hps b.1
  have k1 := mul_small (b := b.1 - a.1 - 1) hc1 (by omega)
  have k2 := mul_small (b := b.2 - a.2 - 1) hc2 (by omega)
  have k3 := mul_small (b := max ((thAt m b.2).place - (thAt m a.2).place - ((thAt s b.1).place - (thAt s a.1).place)) ((thAt s b.1).place - (thAt s a.1).place - ((thAt m b.2).place - (thAt m a.2).place))) hc3 (by omega)
  unfold grownS
  omega
theorem takeS_yes {m s : List Th} {c : Cs} {a b : St} (h : takeS m s c a b = true) : grownS m s c a.p b.p + b.cost ≤ a.cost := by
  unfold takeS betterS at h
  by_cases h1 : grownS m s c a.p b.p + b.cost < a.cost
  · omega
  · by_cases h2 : grownS m s c a.p b.p + b.cost = a.cost
    · omega
    · simp [h1, h2] at h
theorem set_at (l : List St) (i j : Nat) (x : St) (h : i < l.length) : stAt (l.set i x) j = if j = i then x else stAt l j := by
  unfold stAt
  by_cases e : j = i
  · subst e; simp [h]
  · rw [if_neg e]; simp [List.getD, List.getElem?_set_ne (Ne.symm e)]
theorem stepB_ok {m s : List Th} {c : Cs} {n : Nat} {l : List St} (hc : csOk c) (h : BOk m s n l) {i k : Nat} (hi : i < k) (hk : k < n) : BOk m s n (stepB m s c l i k) := by
  unfold stepB
  split
  · exact h
  · rename_i h1
    split
    · rename_i h2
      obtain ⟨g1, g2⟩ := skipS_no h1
      have g3 := takeS_yes h2
      have g4 := grownS_nonneg (m := m) (s := s) hc g1 g2
      obtain ⟨a1, a2, a3, a4⟩ := h.2 i (by omega)
      obtain ⟨b1, b2, b3, b4⟩ := h.2 k hk
      refine ⟨by rw [List.length_set]; exact h.1, fun j hj => ?_⟩
      rw [set_at _ _ _ _ (by rw [h.1]; omega)]
      by_cases e : j = i
      · subst e
        rw [if_pos rfl]
        exact ⟨a1, ⟨by show 0 ≤ grownS m s c _ _ + _; omega, by show grownS m s c _ _ + _ ≤ _; omega⟩, ⟨by show 0 ≤ _ + 1; omega, by show _ + 1 ≤ _; omega⟩, .inr ⟨by show (j : Int) < (k : Int); omega, by show (k : Int) < n; omega⟩⟩
      · rw [if_neg e]
        exact h.2 j hj
    · exact h
theorem rowB_ok {m s : List Th} {c : Cs} {n : Nat} {l : List St} (hc : csOk c) (h : BOk m s n l) {i : Nat} : ∀ q, i + q < n → BOk m s n (rowB m s c l i q)
  | 0, _ => h
  | q + 1, hq => stepB_ok hc (rowB_ok hc h q (by omega)) (by omega) (by omega)
theorem behB_ok {m s : List Th} {c : Cs} {n : Nat} {l : List St} (hc : csOk c) (h : BOk m s n l) : ∀ j, j ≤ n → BOk m s n (behB m s c l j)
  | 0, _ => h
  | j + 1, hj => by
    have hl := h.1
    exact rowB_ok hc (behB_ok hc h j (by omega)) j (by omega)
theorem last_ok {m s : List Th} {c : Cs} {P : List (Int × Int)} (hc : csOk c) (hs : s.length ≤ 64) (hv : ∀ i, i < P.length → inS m s (prAt P i)) : BOk m s P.length (P.map (lastS s c)) := by
  refine ⟨by simp, fun i hi => ?_⟩
  have e : stAt (P.map (lastS s c)) i = lastS s c (prAt P i) := map_at (lastS s c) (0, 0) stD P i hi
  rw [e]
  have hp := hv i hi
  refine ⟨hp, ⟨?_, ?_⟩, ⟨by show (0 : Int) ≤ 0; omega, by show (0 : Int) ≤ _; omega⟩, .inl rfl⟩
  · exact Int.mul_nonneg hc.1.1 (by have := hp.1.2; omega)
  · have h1 := Int.mul_le_mul hc.1.2 (show (s.length : Int) - 1 - (prAt P i).1 ≤ 64 by have := hp.1.1; omega) (by have := hp.1.2; omega) (by decide)
    show c.missed * _ ≤ _
    omega

theorem toP_in {m s : List Th} : ∀ {n : Nat}, n ≤ s.length → ∀ p ∈ toP m s n, inS m s p
  | 0, _, p, h => by cases h
  | n + 1, hn, p, h => by
    rcases List.mem_append.1 h with h | h
    · exact toP_in (by omega) p h
    · obtain ⟨z, hz, rfl⟩ := List.mem_map.1 h
      have := idxS_mem hz
      exact ⟨⟨by show (0 : Int) ≤ (n : Int); omega, by show (n : Int) < s.length; omega⟩, this.1, this.2.1⟩
theorem allP_in {m s : List Th} (i : Nat) (h : i < (allP m s).length) : inS m s (prAt (allP m s) i) := by
  refine toP_in (Nat.le_refl _) _ ?_
  show (allP m s).getD i (0, 0) ∈ allP m s
  rw [List.getD, List.getElem?_eq_getElem h]
  exact List.getElem_mem h
theorem allP_len {m s : List Th} (hm : m.length ≤ 64) (hs : s.length ≤ 64) : (allP m s).length ≤ 4096 :=
  Nat.le_trans (toP_length m s _) (Nat.le_trans (Nat.mul_le_mul hs hm) (by decide))

def behIn (m s : List Th) (c : Cs) (l : List St) : List (Nat × Chunk) := [(4, .row 141 l.length 5 (stC l)), (0, .ro m.length 2 (thC m)), (1, .ro s.length 2 (thC s)), (2, .blk 38 [.sl 0 m.length, .sl 1 s.length]), (3, .blk 40 [i64 c.missed, i64 c.unseen, i64 c.stretch])]
def Behind_i (m s : List Th) (c : Cs) (σ : Ren) : Inst := { f := 66, hin := rideIn m s, args := [rdA m s, csA c], hout := [(2, .row 141 (allP m s).length 5 (stC (behindS m s c)))], ret := .sl 2 (allP m s).length, σ := σ }
set_option maxRecDepth 20000 in
set_option maxHeartbeats 4000000 in
theorem Behind_s (m s : List Th) (c : Cs) (σ : Ren) (hc : csOk c) (hl : m.length ≤ 64 ∧ s.length ≤ 64) (hpm : placesOk m) (hps : placesOk s) (hkm : ∀ k, (m.getD k thD).kind.size ≤ maxLen) (hks : ∀ k, (s.getD k thD).kind.size ≤ maxLen) : (Behind_i m s c σ).ok Tryz.prog := by
  have hP := allP_len hl.1 hl.2
  have hin := @allP_in m s
  have hb0 : ∀ j, j ≤ (allP m s).length → BOk m s (allP m s).length (behB m s c ((allP m s).map (lastS s c)) j) := behB_ok hc (last_ok hc hl.2 hin)
  have hBe : behindS m s c = behB m s c ((allP m s).map (lastS s c)) (allP m s).length := rfl
  unfold Behind_i Inst.ok; dsimp only; refine spec_of_body (tys := tys) 2 Tryz.func66 (by kernel_rfl) rfl tys_ok rfl (Nat.le_of_ble_eq_true rfl) (fun _ _ h => (by cases h)) fun F hP hm hC hrd => ?_; conv => whnf
  repeat first | refine lwp_seq fun K hK => ?_ | ((with_reducible refine gA ?_); apply_assumption -exfalso -symm) | refine gB ?_ | refine gC ?_ | refine gD ?_ | refine gE ?_ | refine gF rfl ?_ | refine gG rfl ?_ | refine gH ?_ | refine gI ?_ | refine gJ ?_ | refine gK ?_ | refine gL ?_ | refine gM hC rfl ⟨⟩ ?_ | refine gM hC rfl (by exact sd) ?_
  (refine lwp_region hC ⟨[], [], [(1, AllPairs_i m s [(0, some 0), (1, some 1)]), (3, BMap_i m s c (allP m s) [(0, some 0), (1, some 1), (2, some 2), (3, some 3), (4, some 4)])]⟩ (told1 _ (by rw [hP]; exact (calls_cons (AllPairs_s _ _ _ hl.1 hl.2 hkm hks) (calls_cons (BMap_s _ _ _ _ _ hc hl.2 (by omega) (fun i hi => hin i hi)) calls_nil)))) rfl ?_ ?_; rotate_left 1)
  · repeat first | refine lwp_seq fun K hK => ?_ | ((with_reducible refine gA ?_); apply_assumption -exfalso -symm) | refine gB ?_ | refine gC ?_ | refine gD ?_ | refine gE ?_ | refine gF rfl ?_ | refine gG rfl ?_ | refine gH ?_ | refine gI ?_ | refine gJ ?_ | refine gK ?_ | refine gL ?_ | refine gM hC rfl ⟨⟩ ?_ | refine gM hC rfl (by exact sd) ?_
    refine lwp_loop (fun j : Nat => ⟨[(6, i64 (((allP m s).length : Int) - 1 - j)), (5, .sl 4 (allP m s).length), (2, .ptr 2 0 0 0), (3, .ptr 3 0 0 0)], [(4, .row 141 (allP m s).length 5 (stC (behB m s c ((allP m s).map (lastS s c)) j))), (0, .ro m.length 2 (thC m)), (1, .ro s.length 2 (thC s)), (2, .blk 38 [.sl 0 m.length, .sl 1 s.length]), (3, .blk 40 [i64 c.missed, i64 c.unseen, i64 c.stretch])], 5⟩) (fun j => j ≤ (allP m s).length) (fun j => (allP m s).length - j) 0 ⟨?_, sub_intro hm [(0, some 0), (1, some 1), (2, some 2), (3, some 3), (4, some 5)] rfl ?_⟩ ?_
    · exact Nat.zero_le _
    · exact sd
    · rintro j hj
      have hLo := hb0 j hj
      repeat first | refine lwp_seq fun K hK => ?_ | ((with_reducible refine gA ?_); apply_assumption -exfalso -symm) | refine gB ?_ | refine gC ?_ | refine gD ?_ | refine gE ?_ | refine gF rfl ?_ | refine gG rfl ?_ | refine gH ?_ | refine gI ?_ | refine gJ ?_ | refine gK ?_ | refine gL ?_ | refine gM hC rfl ⟨⟩ ?_ | refine gM hC rfl (by exact sd) ?_
      (refine lwp_cond hC rfl (by first | exact ⟨⟩ | exact sd) (fun hb => ?_) (fun hb => ?_) <;> (try simp only [decide_eq_true_eq, decide_eq_false_iff_not, Bool.not_eq_true', Bool.not_eq_false', ne_eq, Decidable.not_not] at hb))
      · obtain ⟨i, hi⟩ : ∃ i : Nat, (allP m s).length = i + 1 + j := ⟨(allP m s).length - 1 - j, by omega⟩
        have hnext : behB m s c ((allP m s).map (lastS s c)) (j + 1) = rowB m s c (behB m s c ((allP m s).map (lastS s c)) j) i j := by
          show rowB m s c _ (((allP m s).map (lastS s c)).length - 1 - j) j = _
          rw [List.length_map, show (allP m s).length - 1 - j = i by omega]
        obtain ⟨L, hL⟩ : ∃ L, behB m s c ((allP m s).map (lastS s c)) j = L := ⟨_, rfl⟩
        rw [hL] at hnext hLo ⊢
        have e0 : (((allP m s).length : Int) - 1 - j) = i := by omega
        rw [e0]
        have hR : ∀ q, q ≤ j → BOk m s (allP m s).length (rowB m s c L i q) := fun q hq => rowB_ok hc hLo q (by omega)
        have HR := Lib.hid hR
        have HN := Lib.hid hnext
        have HPM := Lib.hid hpm
        have HPS := Lib.hid hps
        clear hR hnext hLo hL hb0 hin hkm hks hBe hpm hps
        repeat first | refine lwp_seq fun K hK => ?_ | ((with_reducible refine gA ?_); apply_assumption -exfalso -symm) | refine gB ?_ | refine gC ?_ | refine gD ?_ | refine gE ?_ | refine gF rfl ?_ | refine gG rfl ?_ | refine gH ?_ | refine gI ?_ | refine gJ ?_ | refine gK ?_ | refine gL ?_ | refine gM hC rfl ⟨⟩ ?_ | refine gM hC rfl (by exact sd) ?_
        refine lwp_loop (fun q : Nat => ⟨[(7, i64 ((i : Int) + 1 + q)), (6, i64 i), (5, .sl 4 (allP m s).length), (2, .ptr 2 0 0 0), (3, .ptr 3 0 0 0)], [(4, .row 141 (allP m s).length 5 (stC (rowB m s c L i q))), (0, .ro m.length 2 (thC m)), (1, .ro s.length 2 (thC s)), (2, .blk 38 [.sl 0 m.length, .sl 1 s.length]), (3, .blk 40 [i64 c.missed, i64 c.unseen, i64 c.stretch])], 5⟩) (fun q => q ≤ j) (fun q => j - q) 0 ⟨?_, sub_intro hm [(0, some 0), (1, some 1), (2, some 2), (3, some 3), (4, some 4)] rfl ?_⟩ ?_
        · exact Nat.zero_le _
        · exact sd
        · rintro q hq
          have hRq := HR.out q hq
          obtain ⟨R, hRe⟩ : ∃ R, rowB m s c L i q = R := ⟨_, rfl⟩
          have hst : rowB m s c L i (q + 1) = stepB m s c R i (i + 1 + q) := by rw [← hRe]; rfl
          rw [hRe] at hRq ⊢
          have HST := Lib.hid hst
          have hRe0 := Lib.hid hRe
          clear hst hRe
          have hRl := hRq.1
          have e1 : (i : Int).toNat = i := Int.toNat_natCast i
          have e2 : ((i : Int) + 1 + q).toNat = i + 1 + q := by omega
          repeat first | refine lwp_seq fun K hK => ?_ | ((with_reducible refine gA ?_); apply_assumption -exfalso -symm) | refine gB ?_ | refine gC ?_ | refine gD ?_ | refine gE ?_ | refine gF rfl ?_ | refine gG rfl ?_ | refine gH ?_ | refine gI ?_ | refine gJ ?_ | refine gK ?_ | refine gL ?_ | refine gM hC rfl ⟨⟩ ?_ | refine gM hC rfl (by exact sd) ?_
          (refine lwp_cond hC rfl (by first | exact ⟨⟩ | exact sd) (fun hb => ?_) (fun hb => ?_) <;> (try simp only [decide_eq_true_eq, decide_eq_false_iff_not, Bool.not_eq_true', Bool.not_eq_false', ne_eq, Decidable.not_not] at hb))
          · have hqj : q < j := by omega
            have hka : StOk m s (allP m s).length i (R.getD i stD) := hRq.2 i (by omega)
            have hkb : StOk m s (allP m s).length (i + 1 + q) (R.getD (i + 1 + q) stD) := hRq.2 (i + 1 + q) (by omega)
            have HKA := Lib.hid hka
            have HKB := Lib.hid hkb
            clear hRq hka hkb
            repeat first | refine lwp_seq fun K hK => ?_ | ((with_reducible refine gA ?_); apply_assumption -exfalso -symm) | refine gB ?_ | refine gC ?_ | refine gD ?_ | refine gE ?_ | refine gF rfl ?_ | refine gG rfl ?_ | refine gH ?_ | refine gI ?_ | refine gJ ?_ | refine gK ?_ | refine gL ?_ | refine gM hC rfl ⟨⟩ ?_ | refine gM hC rfl (by exact sd) ?_
            (refine lwp_drawn2 hC (by rw [hP]; exact mixed) ⟨[], [], []⟩ (told0 _ _) [0, 0, 3, 7, 0, 0, 48, 112, 0, 0, 783, 2047] 10 240 rfl ?_ ?_; rotate_left 1)
            · rw [e1, e2]
              obtain ⟨a, ha⟩ : ∃ a, R.getD i stD = a := ⟨_, rfl⟩
              obtain ⟨b, hb'⟩ : ∃ b, R.getD (i + 1 + q) stD = b := ⟨_, rfl⟩
              have HST2 := HST.out
              unfold stepB stAt at HST2
              rw [ha, hb'] at HST2
              have HS := Lib.hid HST2
              have HA := Lib.hid ha
              rw [ha, hb']
              rw [ha] at HKA
              rw [hb'] at HKB
              obtain ⟨ai, ⟨a5, a6⟩, ⟨a7, a8⟩, a9⟩ := HKA.out
              obtain ⟨bi, ⟨b5, b6⟩, ⟨b7, b8⟩, b9⟩ := HKB.out
              clear HST HST2 ha hb' HKA HKB
              have hgs := grownS_small hc hl HPM.out HPS.out ai bi
              repeat first | refine lwp_seq fun K hK => ?_ | ((with_reducible refine gA ?_); apply_assumption -exfalso -symm) | refine gB ?_ | refine gC ?_ | refine gD ?_ | refine gE ?_ | refine gF rfl ?_ | refine gG rfl ?_ | refine gH ?_ | refine gI ?_ | refine gJ ?_ | refine gK ?_ | refine gL ?_ | refine gM hC rfl ⟨⟩ ?_ | refine gM hC rfl (by exact sd) ?_
              (refine lwp_cond hC rfl (by first | exact ⟨⟩ | exact sd) (fun hb => ?_) (fun hb => ?_) <;> (try simp only [decide_eq_true_eq, decide_eq_false_iff_not, Bool.not_eq_true', Bool.not_eq_false', ne_eq, Decidable.not_not] at hb))
              · have hst : rowB m s c L i (q + 1) = R := by rw [HS.out, if_pos (show skipS a b = true from hb)]
                repeat first | refine lwp_seq fun K hK => ?_ | ((with_reducible refine gA ?_); apply_assumption -exfalso -symm) | refine gB ?_ | refine gC ?_ | refine gD ?_ | refine gE ?_ | refine gF rfl ?_ | refine gG rfl ?_ | refine gH ?_ | refine gI ?_ | refine gJ ?_ | refine gK ?_ | refine gL ?_ | refine gM hC rfl ⟨⟩ ?_ | refine gM hC rfl (by exact sd) ?_
                refine gA ⟨q + 1, ?_, ?_, sub_intro hm [(0, some 0), (1, some 1), (2, some 2), (3, some 3), (4, some 4)] rfl ?_⟩
                · omega
                · omega
                · rw [hst]
                  exact sd
              · have hsk : ¬ skipS a b = true := by rw [show skipS a b = false from hb]; decide
                repeat first | refine lwp_seq fun K hK => ?_ | ((with_reducible refine gA ?_); apply_assumption -exfalso -symm) | refine gB ?_ | refine gC ?_ | refine gD ?_ | refine gE ?_ | refine gF rfl ?_ | refine gG rfl ?_ | refine gH ?_ | refine gI ?_ | refine gJ ?_ | refine gK ?_ | refine gL ?_ | refine gM hC rfl ⟨⟩ ?_ | refine gM hC rfl (by exact sd) ?_
                (refine lwp_drawn hC (by rw [hP]; exact mixed) ⟨[], [], [(6, Grown_i m s c a.p b.p [(0, some 0), (1, some 1)])]⟩ (told1 _ (by rw [hP]; exact (calls_cons (Grown_s _ _ _ _ _ _ hc hl HPM.out HPS.out ai bi) calls_nil))) [0, 0, 0, 4, 0, 16, 63, 0, 128, 511, 1023] 9 rfl ?_ ?_; rotate_left 1)
                · repeat first | refine lwp_seq fun K hK => ?_ | ((with_reducible refine gA ?_); apply_assumption -exfalso -symm) | refine gB ?_ | refine gC ?_ | refine gD ?_ | refine gE ?_ | refine gF rfl ?_ | refine gG rfl ?_ | refine gH ?_ | refine gI ?_ | refine gJ ?_ | refine gK ?_ | refine gL ?_ | refine gM hC rfl ⟨⟩ ?_ | refine gM hC rfl (by exact sd) ?_
                  (refine lwp_region hC ⟨[], [], [(8, Better_i (grownS m s c a.p b.p + b.cost) (b.many + 1) a.cost a.many [])]⟩ (told1 _ (by rw [hP]; exact (calls_cons (Better_s _ _ _ _ _) calls_nil))) rfl ?_ ?_; rotate_left 1)
                  · repeat first | refine lwp_seq fun K hK => ?_ | ((with_reducible refine gA ?_); apply_assumption -exfalso -symm) | refine gB ?_ | refine gC ?_ | refine gD ?_ | refine gE ?_ | refine gF rfl ?_ | refine gG rfl ?_ | refine gH ?_ | refine gI ?_ | refine gJ ?_ | refine gK ?_ | refine gL ?_ | refine gM hC rfl ⟨⟩ ?_ | refine gM hC rfl (by exact sd) ?_
                    (refine lwp_cond hC rfl (by first | exact ⟨⟩ | exact sd) (fun hb => ?_) (fun hb => ?_) <;> (try simp only [decide_eq_true_eq, decide_eq_false_iff_not, Bool.not_eq_true', Bool.not_eq_false', ne_eq, Decidable.not_not] at hb))
                    · have hst : rowB m s c L i (q + 1) = R.set i (newSt m s c a b (i + 1 + q)) := by rw [HS.out, if_neg hsk, if_pos (show takeS m s c a b = true from hb)]
                      repeat first | refine lwp_seq fun K hK => ?_ | ((with_reducible refine gA ?_); apply_assumption -exfalso -symm) | refine gB ?_ | refine gC ?_ | refine gD ?_ | refine gE ?_ | refine gF rfl ?_ | refine gG rfl ?_ | refine gH ?_ | refine gI ?_ | refine gJ ?_ | refine gK ?_ | refine gL ?_ | refine gM hC rfl ⟨⟩ ?_ | refine gM hC rfl (by exact sd) ?_
                      (refine lwp_drawn2 hC (by rw [hP]; exact mixed) ⟨[], [], []⟩ (told0 _ _) [0, 0, 0, 0, 0, 0, 0, 0, 128, 384, 0, 67, 2115, 6211, 15311, 31695, 64463, 131071, 262143, 524287] 13 1980 rfl ?_ ?_; rotate_left 1)
                      · rw [e1]
                        repeat first | refine lwp_seq fun K hK => ?_ | ((with_reducible refine gA ?_); apply_assumption -exfalso -symm) | refine gB ?_ | refine gC ?_ | refine gD ?_ | refine gE ?_ | refine gF rfl ?_ | refine gG rfl ?_ | refine gH ?_ | refine gI ?_ | refine gJ ?_ | refine gK ?_ | refine gL ?_ | refine gM hC rfl ⟨⟩ ?_ | refine gM hC rfl (by exact sd) ?_
                        refine gA ⟨q + 1, ?_, ?_, sub_intro hm [(0, some 0), (1, some 1), (2, some 2), (3, some 3), (4, some 4)] rfl ?_⟩
                        · omega
                        · omega
                        · rw [hst]
                          have hC3 := stC_set3 R i a (newSt m s c a b (i + 1 + q)) (grownS m s c a.p b.p + b.cost) (b.many + 1) ((i : Int) + 1 + q) (by omega) HA.out rfl rfl rfl (show ((i + 1 + q : Nat) : Int) = _ by omega)
                          exact ⟨rfl, rfl, rfl, rfl, rfl, rfl, rfl, rfl, rfl, hC3, rfl, rfl, rfl, rfl, rfl, (show (i : Int) + 1 + ((q + 1 : Nat) : Int) = _ by omega), trivial⟩
                      · simp only [e1]
                        exact sd
                    · have hst : rowB m s c L i (q + 1) = R := by rw [HS.out, if_neg hsk, if_neg (show ¬ takeS m s c a b = true by rw [show takeS m s c a b = false from hb]; decide)]
                      repeat first | refine lwp_seq fun K hK => ?_ | ((with_reducible refine gA ?_); apply_assumption -exfalso -symm) | refine gB ?_ | refine gC ?_ | refine gD ?_ | refine gE ?_ | refine gF rfl ?_ | refine gG rfl ?_ | refine gH ?_ | refine gI ?_ | refine gJ ?_ | refine gK ?_ | refine gL ?_ | refine gM hC rfl ⟨⟩ ?_ | refine gM hC rfl (by exact sd) ?_
                      refine gA ⟨q + 1, ?_, ?_, sub_intro hm [(0, some 0), (1, some 1), (2, some 2), (3, some 3), (4, some 4)] rfl ?_⟩
                      · omega
                      · omega
                      · rw [hst]
                        exact sd
                  · exact sd
                · exact sd
            · simp only [e1, e2]
              exact sd
          · obtain rfl : q = j := by omega
            have hRL : rowB m s c L i q = R := hRe0.out
            repeat first | refine lwp_seq fun K hK => ?_ | ((with_reducible refine gA ?_); apply_assumption -exfalso -symm) | refine gB ?_ | refine gC ?_ | refine gD ?_ | refine gE ?_ | refine gF rfl ?_ | refine gG rfl ?_ | refine gH ?_ | refine gI ?_ | refine gJ ?_ | refine gK ?_ | refine gL ?_ | refine gM hC rfl ⟨⟩ ?_ | refine gM hC rfl (by exact sd) ?_
            refine gA ⟨q + 1, ?_, ?_, sub_intro hm [(0, some 0), (1, some 1), (2, some 2), (3, some 3), (4, some 4)] rfl ?_⟩
            · omega
            · omega
            · rw [HN.out, hRL]
              exact sd
      · obtain rfl : j = (allP m s).length := by omega
        rw [← hBe]
        repeat first | refine lwp_seq fun K hK => ?_ | ((with_reducible refine gA ?_); apply_assumption -exfalso -symm) | refine gB ?_ | refine gC ?_ | refine gD ?_ | refine gE ?_ | refine gF rfl ?_ | refine gG rfl ?_ | refine gH ?_ | refine gI ?_ | refine gJ ?_ | refine gK ?_ | refine gL ?_ | refine gM hC rfl ⟨⟩ ?_ | refine gM hC rfl (by exact sd) ?_
        (refine end_intro (by first | exact .inr rfl | exact .inl rfl) [(2, some 4)] rfl ?_)
        exact sd
  · exact sd

end Go.Proofs.YtfmnfagcbehmdaaGreatDoor
