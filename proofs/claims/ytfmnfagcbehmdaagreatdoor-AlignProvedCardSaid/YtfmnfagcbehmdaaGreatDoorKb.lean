/- Chapter 5: the least costs of the beginnings of alignments, the program's. -/
import Derived.Test.YtfmnfagcbehmdaaGreatDoorJd
import Derived.Test.YtfmnfagcbehmdaaGreatDoorKa
set_option linter.unusedVariables false
set_option linter.unusedSimpArgs false
namespace Go.Proofs.YtfmnfagcbehmdaaGreatDoor
open Go.RowKit Go.Sym

def Before_i (l : List St) (i : Int) (σ : Ren) : Inst := { f := 71, hin := [(0, .ro l.length 5 (stC l))], args := [.sl 0 l.length, i64 i], hout := [(1, .blk 138 [.sl 0 l.length]), (2, .blk 3 [i64 i])], ret := .fn 130 [] [.ptr 2 0 0 0, .ptr 1 0 0 0], σ := σ }
theorem Before_s (l : List St) (i : Int) (σ : Ren) : (Before_i l i σ).ok Tryz.prog := by
  unfold Before_i Inst.ok; dsimp only; refine spec_of_body (tys := tys) 1 Tryz.func71 (by kernel_rfl) rfl tys_ok rfl (Nat.le_of_ble_eq_true rfl) (fun _ _ h => (by cases h)) fun F hP hm hC hrd => ?_; conv => whnf
  repeat first | refine lwp_seq fun K hK => ?_ | (with_reducible refine gA ?_; apply_assumption -exfalso -symm) | refine Stp.h ?_ | refine gF rfl ?_ | refine gG rfl ?_ | refine gM hC rfl sd ?_
  (refine end_intro (by first | exact .inr rfl | exact .inl rfl) [(0, some 0), (1, some 1), (2, some 2)] rfl ?_)
  exact sd

/-- One state may come before another one. -/
def befS (a b : St) : Bool := bif decide (a.p.1 < b.p.1) then decide (a.p.2 < b.p.2) else false
theorem befS_iff {a b : St} : befS a b = true ↔ a.p.1 < b.p.1 ∧ a.p.2 < b.p.2 := by
  unfold befS
  by_cases h : a.p.1 < b.p.1 <;> simp [h]
/-- The least cost of a beginning that ends with state i, of those by the first k states. -/
def rowA (m s : List Th) (c : Cs) (L : List St) (O : List Int) (i : Nat) : Nat → Int
  | 0 => c.missed * (stAt L i).p.1
  | k + 1 => if befS (stAt L k) (stAt L i) = true then (if O.getD k 0 + grownS m s c (stAt L k).p (stAt L i).p < rowA m s c L O i k then O.getD k 0 + grownS m s c (stAt L k).p (stAt L i).p else rowA m s c L O i k) else rowA m s c L O i k
def aheadO (m s : List Th) (c : Cs) (L : List St) : Nat → List Int
  | 0 => List.replicate L.length 0
  | i + 1 => (aheadO m s c L i).set i (rowA m s c L (aheadO m s c L i) i i)
def aheadS (m s : List Th) (c : Cs) (L : List St) : List Int := aheadO m s c L L.length
theorem aheadO_len (m s : List Th) (c : Cs) (L : List St) (i : Nat) : (aheadO m s c L i).length = L.length := by
  induction i with
  | zero => simp [aheadO]
  | succ i ih => simp [aheadO, ih]
theorem rowA_bound {m s : List Th} {c : Cs} {n : Nat} {L : List St} {O : List Int} (hc : csOk c) (hs : s.length ≤ 64) (h : BOk m s n L) (hO : ∀ k, 0 ≤ O.getD k 0) {i : Nat} (hi : i < n) : ∀ k, k ≤ i → 0 ≤ rowA m s c L O i k ∧ rowA m s c L O i k ≤ 64000
  | 0, _ => by
    obtain ⟨a1, _⟩ := h.2 i hi
    have h1 := Int.mul_nonneg hc.1.1 a1.1.1
    have h2 := Int.mul_le_mul hc.1.2 (show (stAt L i).p.1 ≤ 64 by have := a1.1.2; omega) a1.1.1 (by decide)
    exact ⟨h1, by show c.missed * _ ≤ _; omega⟩
  | k + 1, hk => by
    obtain ⟨i1, i2⟩ := rowA_bound hc hs h hO hi k (by omega)
    have hk0 := hO k
    unfold rowA
    split
    · rename_i hb
      obtain ⟨b1, b2⟩ := befS_iff.1 hb
      have g0 := grownS_nonneg (m := m) (s := s) hc b1 b2
      split <;> omega
    · exact ⟨i1, i2⟩
theorem aheadO_bound {m s : List Th} {c : Cs} {n : Nat} {L : List St} (hc : csOk c) (hs : s.length ≤ 64) (h : BOk m s n L) : ∀ i, i ≤ n → ∀ k, 0 ≤ (aheadO m s c L i).getD k 0 ∧ (aheadO m s c L i).getD k 0 ≤ 64000
  | 0, _, k => by
    unfold aheadO
    by_cases hk : k < L.length <;> simp [List.getD, hk]
  | i + 1, hi, k => by
    have ih := aheadO_bound hc hs h i (by omega)
    have hr := rowA_bound hc hs h (fun k => (ih k).1) (show i < n by omega) i (Nat.le_refl _)
    unfold aheadO
    by_cases hk : k = i
    · subst hk
      rw [List.getD_eq_getElem?_getD, List.getElem?_set_self (by rw [aheadO_len]; have := h.1; omega)]
      exact hr
    · rw [List.getD_eq_getElem?_getD, List.getElem?_set_ne (Ne.symm hk), ← List.getD_eq_getElem?_getD]
      exact ih k

/-- What is known around the range. -/
def ahT (i n : Nat) : List (Nat × AV) := [(34, .fn 130 [] [.ptr 11 0 0 0, .ptr 10 0 0 0]), (16, i64 i), (15, i64 n), (14, .sl 2 n), (7, .ptr 7 0 0 0), (8, .ptr 8 0 0 0), (9, .ptr 9 0 0 0), (3, .ptr 3 0 0 0), (4, .ptr 4 0 0 0), (5, .ptr 5 0 0 0)]
def ahH (m s : List Th) (c : Cs) (L : List St) (O : List Int) (i : Nat) (x : St) : List (Nat × Chunk) := [(6, .row 3 L.length 1 (.ints .i64 O)), (7, .blk 45 [.sl 6 L.length]), (8, .blk 3 [i64 i]), (9, .blk 141 [i64 x.p.1, i64 x.p.2, i64 x.cost, i64 x.many, i64 x.next]), (10, .blk 138 [.sl 2 L.length]), (11, .blk 3 [i64 i]), (0, .ro m.length 2 (thC m)), (1, .ro s.length 2 (thC s)), (2, .ro L.length 5 (stC L)), (3, .blk 38 [.sl 0 m.length, .sl 1 s.length]), (4, .blk 40 [i64 c.missed, i64 c.unseen, i64 c.stretch]), (5, .blk 138 [.sl 2 L.length])]
def Ahead_i (m s : List Th) (c : Cs) (L : List St) (σ : Ren) : Inst := { f := 69, hin := rideIn m s ++ [(2, .ro L.length 5 (stC L))], args := [rdA m s, csA c, .sl 2 L.length], hout := [(3, .row 3 L.length 1 (.ints .i64 (aheadS m s c L)))], ret := .sl 3 L.length, σ := σ }
set_option maxRecDepth 20000 in
set_option maxHeartbeats 4000000 in
theorem Ahead_s (m s : List Th) (c : Cs) (L : List St) (σ : Ren) (hc : csOk c) (hl : m.length ≤ 64 ∧ s.length ≤ 64) (hpm : placesOk m) (hps : placesOk s) (hB : BOk m s L.length L) (hn : L.length ≤ 4096) : (Ahead_i m s c L σ).ok Tryz.prog := by
  have hO : ∀ i, i ≤ L.length → ∀ k, 0 ≤ (aheadO m s c L i).getD k 0 ∧ (aheadO m s c L i).getD k 0 ≤ 64000 := aheadO_bound hc hl.2 hB
  have HO := Lib.hid hO
  have HB := Lib.hid hB
  have HPM := Lib.hid hpm
  have HPS := Lib.hid hps
  clear hO hB hpm hps
  unfold Ahead_i Inst.ok; dsimp only; refine spec_of_body (tys := tys) 3 Tryz.func69 (by kernel_rfl) rfl tys_ok rfl (Nat.le_of_ble_eq_true rfl) (fun _ _ h => (by cases h)) fun F hP hm hC hrd => ?_; conv => whnf
  repeat first | refine lwp_seq fun K hK => ?_ | (with_reducible refine gA ?_; apply_assumption -exfalso -symm) | refine Stp.h ?_ | refine gF rfl ?_ | refine gG rfl ?_ | refine gM hC rfl sd ?_
  refine lwp_loop (fun i : Nat => ⟨[(16, i64 i), (15, i64 L.length), (14, .sl 2 L.length), (7, .ptr 7 0 0 0), (3, .ptr 3 0 0 0), (4, .ptr 4 0 0 0), (5, .ptr 5 0 0 0)], [(6, .row 3 L.length 1 (.ints .i64 (aheadO m s c L i))), (7, .blk 45 [.sl 6 L.length]), (0, .ro m.length 2 (thC m)), (1, .ro s.length 2 (thC s)), (2, .ro L.length 5 (stC L)), (3, .blk 38 [.sl 0 m.length, .sl 1 s.length]), (4, .blk 40 [i64 c.missed, i64 c.unseen, i64 c.stretch]), (5, .blk 138 [.sl 2 L.length])], 8⟩) (fun i => i ≤ L.length) (fun i => L.length - i) 0 ⟨?_, sub_intro hm [(0, some 0), (1, some 1), (2, some 2), (3, some 3), (4, some 4), (5, some 5), (6, some 6), (7, some 7)] rfl ?_⟩ ?_
  · exact Nat.zero_le _
  · exact sd
  · rintro i hi
    have e1 : (i : Int).toNat = i := Int.toNat_natCast i
    repeat first | refine lwp_seq fun K hK => ?_ | (with_reducible refine gA ?_; apply_assumption -exfalso -symm) | refine Stp.h ?_ | refine gF rfl ?_ | refine gG rfl ?_ | refine gM hC rfl sd ?_
    refine lwp_condS hC rfl sd ?_ ?_ <;> intro hb
    · have hil : i < L.length := by omega
      have hx : StOk m s L.length i (L.getD i stD) := HB.out.2 i hil
      repeat first | refine lwp_seq fun K hK => ?_ | (with_reducible refine gA ?_; apply_assumption -exfalso -symm) | refine Stp.h ?_ | refine gF rfl ?_ | refine gG rfl ?_ | refine gM hC rfl sd ?_
      rw [e1]
      have hnext : aheadO m s c L (i + 1) = (aheadO m s c L i).set i (rowA m s c L (aheadO m s c L i) i i) := rfl
      have hr0 : ∀ O : List Int, rowA m s c L O i 0 = c.missed * (L.getD i stD).p.1 := fun _ => rfl
      have hrb := rowA_bound hc hl.2 HB.out (fun k => (HO.out i hi k).1) hil
      have hOl := aheadO_len m s c L i
      have hOb := HO.out i hi
      have hrn : ∀ k, rowA m s c L (aheadO m s c L i) i (k + 1) = if befS (L.getD k stD) (L.getD i stD) = true then (if (aheadO m s c L i).getD k 0 + grownS m s c (L.getD k stD).p (L.getD i stD).p < rowA m s c L (aheadO m s c L i) i k then (aheadO m s c L i).getD k 0 + grownS m s c (L.getD k stD).p (L.getD i stD).p else rowA m s c L (aheadO m s c L i) i k) else rowA m s c L (aheadO m s c L i) i k := fun k => rfl
      obtain ⟨R, hR⟩ : ∃ R, rowA m s c L (aheadO m s c L i) i = R := ⟨_, rfl⟩
      obtain ⟨O, hOe⟩ : ∃ O, aheadO m s c L i = O := ⟨_, rfl⟩
      have hr0 := hr0 O
      rw [hOe] at hR hrb hOb hrn hnext hOl ⊢
      rw [hR] at hr0 hrb hrn hnext
      obtain ⟨x, hxe⟩ : ∃ x, L.getD i stD = x := ⟨_, rfl⟩
      rw [hxe] at hx hr0 hrn ⊢
      obtain ⟨hxi, ⟨x5, x6⟩, ⟨x7, x8⟩, x9⟩ := hx
      have k2 := mul_small (b := x.p.1) hc.1 (by have := hxi.1; omega)
      have HN := Lib.hid hnext
      have HRN := Lib.hid hrn
      have HRB := Lib.hid hrb
      have HR0 := Lib.hid hr0
      have HOB := Lib.hid hOb
      have HXE := Lib.hid hxe
      clear hnext hrn hrb hr0 hOb hOe hR hxe
      (refine lwp_drawn hC (by rw [hP]; exact mixed) ⟨[], [(9, custIx)], [(8, Ends_i m s c x.p x.p [(0, some 0), (1, some 1)])]⟩ ⟨(fun p hp => by rcases List.mem_cons.1 hp with rfl | hp; rw [hP]; exact custIx_ok; cases hp), (by rw [hP]; exact (calls_cons (Ends_s _ _ _ _ _ _ hc hl.2 hxi hxi) calls_nil))⟩ [0, 0, 0, 0, 0, 16, 0, 64, 252, 508, 1023, 2047] 10 rfl ?_ ?_; rotate_left 1)
      · repeat first | refine lwp_seq fun K hK => ?_ | (with_reducible refine gA ?_; apply_assumption -exfalso -symm) | refine Stp.h ?_ | refine gF rfl ?_ | refine gG rfl ?_ | refine gM hC rfl sd ?_
        (refine lwp_region hC ⟨[], [], [(2, Before_i L i [(0, some 2)])]⟩ (told1 _ (by rw [hP]; exact (calls_cons (Before_s _ _ _) calls_nil))) rfl ?_ ?_; rotate_left 1)
        · repeat first | refine lwp_seq fun K hK => ?_ | (with_reducible refine gA ?_; apply_assumption -exfalso -symm) | refine Stp.h ?_ | refine gF rfl ?_ | refine gG rfl ?_
          rw [e1, ← HR0.out]
          refine lwp_sub (t := ⟨ahT i L.length, ahH m s c L (O.set i (R 0)) i x, 12⟩) (sub_intro hm [(0, some 0), (1, some 1), (2, some 2), (3, some 3), (4, some 4), (5, some 5), (6, some 6), (7, some 7), (8, some 8), (9, some 9), (10, some 13), (11, some 14)] rfl ?_) ?_
          · exact sd
          · (have hCo := hC; have hmo := hm; have hPo := hP; have hrdo := hrd; refine lwp_rangeG fun AS BD hAS hBD => ?_; refine lwp_range hC hrd (f := 130) rfl ⟨⟩ (by rw [hP]; exact Tryz.func130) rfl rfl rfl rfl rfl fun F1 hP1 hm1 hC1 hrd1 => ?_; have hP := hP1.trans hP; have hm := hm1; have hC := hC1; have hrd := hrd1; clear hP1 hm1 hC1 hrd1; dsimp only at hC; conv => whnf)
            repeat first | refine lwp_seq fun K hK => ?_ | (with_reducible refine gA ?_; apply_assumption -exfalso -symm) | refine Stp.h ?_ | refine gF rfl ?_ | refine gG rfl ?_ | refine gM hC rfl sd ?_
            refine lwp_loop (fun k : Nat => ⟨[(0, .yld 12), (1, .ptr 11 0 0 0), (2, .ptr 10 0 0 0), (5, i64 i), (6, i64 k)], (12, .obj (.rcd (ahT i L.length) 61 #[35] AS BD .ready)) :: ahH m s c L (O.set i (R k)) i x, 13⟩) (fun k => k ≤ i) (fun k => i - k) 0 ⟨?_, sub_intro hm [(0, some 0), (1, some 1), (2, some 2), (3, some 3), (4, some 4), (5, some 5), (6, some 6), (7, some 7), (8, some 8), (9, some 9), (10, some 10), (11, some 11), (12, some 12)] rfl ?_⟩ ?_
            · exact Nat.zero_le _
            · exact sd
            · rintro k hk
              have e2 : (k : Int).toNat = k := Int.toNat_natCast k
              repeat first | refine lwp_seq fun K hK => ?_ | (with_reducible refine gA ?_; apply_assumption -exfalso -symm) | refine Stp.h ?_ | refine gF rfl ?_ | refine gG rfl ?_ | refine gM hC rfl sd ?_
              refine lwp_condS hC rfl sd ?_ ?_ <;> intro hb
              · have hki : k < i := by omega
                repeat first | refine lwp_seq fun K hK => ?_ | (with_reducible refine gA ?_; apply_assumption -exfalso -symm) | refine Stp.h ?_ | refine gF rfl ?_ | refine gG rfl ?_ | refine gM hC rfl sd ?_
                by_cases p1 : (L.getD k stD).p.1 < (L.getD i stD).p.1
                · by_cases p2 : (L.getD k stD).p.2 < (L.getD i stD).p.2
                  · (refine lwp_drawn_pre hC (by rw [hP]; exact mixed) ⟨[(12, { b := some true }), (27, { b := some true })], [], []⟩ (told0 _ _) [0, 0, 3, 7, 15, 31, 0, 0, 192, 448, 960, 1984, 4095, 8191, 16383, 16383, 65535, 131071, 262143, 524287, 16383, 16383, 3162111, 7356415, 15745023, 32522239, 67108863, 134217727, 268435455, 536870911, 536870911, 2147483647, 4294967295, 8589934591] 31 rfl ?_ ?_; rotate_left 1)
                    · (refine lops_yield hC (j := 31) (idx := [32, 33]) rfl (fun _ _ h => by cases h; rfl) rfl (by exact sd) fun F2 hP2 hm2 hC2 => ?_; have hP1o := hP; have hm1o := hm; have hC1o := hC; have hrd1o := hrd; have hP := hP2.trans hP; have hm := hm2; have hC := hC2; clear hP2 hm2 hC2; dsimp only at hC hm; subst hAS hBD; dsimp only)
                      have hky : StOk m s L.length k (L.getD k stD) := HB.out.2 k (by omega)
                      have f4 : R (k + 1) = if O.getD k 0 + grownS m s c (L.getD k stD).p x.p < R k then O.getD k 0 + grownS m s c (L.getD k stD).p x.p else R k := by rw [HRN.out k, if_pos (befS_iff.2 (by rw [← HXE.out]; exact ⟨p1, p2⟩))]
                      have f1 : (O.set i (R k)).getD i 0 = R k := by rw [List.getD_eq_getElem?_getD, List.getElem?_set_self (show i < O.length by omega)]; rfl
                      have f2 : (O.set i (R k)).getD k 0 = O.getD k 0 := by rw [List.getD_eq_getElem?_getD, List.getElem?_set_ne (by omega), ← List.getD_eq_getElem?_getD]
                      have f3 : ∀ v, (O.set i (R k)).set i v = O.set i v := fun v => by rw [List.set_set]
                      have hkb := HRB.out k hk
                      have hob := HOB.out k
                      obtain ⟨y, hye⟩ : ∃ y, L.getD k stD = y := ⟨_, rfl⟩
                      rw [hye] at hky f4
                      obtain ⟨yi, _, _, _⟩ := hky
                      have hgs := grownS_small hc hl HPM.out HPS.out yi hxi
                      have HF := Lib.hid f4
                      clear f4 p1 p2
                      repeat first | refine lwp_seq fun K hK => ?_ | (with_reducible refine gA ?_; apply_assumption -exfalso -symm) | refine Stp.h ?_ | refine gF rfl ?_ | refine gG rfl ?_ | refine gM hC rfl sd ?_
                      (refine ⟨rfl, ?_⟩; (conv => whnf))
                      repeat first | refine lwp_seq fun K hK => ?_ | (with_reducible refine gA ?_; apply_assumption -exfalso -symm) | refine Stp.h ?_ | refine gF rfl ?_ | refine gG rfl ?_ | refine gM hC rfl sd ?_
                      (refine lwp_drawn2 hC (by rw [hP]; exact mixed) ⟨[], [], [(19, Grown_i m s c y.p x.p [(0, some 0), (1, some 1)])]⟩ (told1 _ (by rw [hP]; exact (calls_cons (Grown_s _ _ _ _ _ _ hc hl HPM.out HPS.out yi hxi) calls_nil))) [0, 0, 0, 0, 12, 28, 0, 0, 192, 448, 0, 0, 0, 0, 12288, 28672, 61440, 0, 131072, 523264, 1048512, 2097148, 4194303, 8388607] 23 0 rfl ?_ ?_; rotate_left 1)
                      · repeat first | refine lwp_seq fun K hK => ?_ | (with_reducible refine gA ?_; apply_assumption -exfalso -symm) | refine Stp.h ?_ | refine gF rfl ?_ | refine gG rfl ?_ | refine gM hC rfl sd ?_
                        ((conv => whnf); refine ⟨_, rfl, ?_⟩; have hP := hP1o; have hm := hm1o; have hC := hC1o; have hrd := hrd1o; refine lops_tail hC (told0 _ []) (i := 32) (by decide) rfl ?_ ?_; rotate_left 1)
                        · repeat first | refine lwp_seq fun K hK => ?_ | (with_reducible refine gA ?_; apply_assumption -exfalso -symm) | refine Stp.h ?_ | refine gF rfl ?_ | refine gG rfl ?_ | refine gM hC rfl sd ?_
                          refine lwp_condS hC rfl sd ?_ ?_ <;> intro hb
                          · simp at hb
                          · repeat first | refine lwp_seq fun K hK => ?_ | (with_reducible refine gA ?_; apply_assumption -exfalso -symm) | refine Stp.h ?_ | refine gF rfl ?_ | refine gG rfl ?_ | refine gM hC rfl sd ?_
                            refine gA ⟨k + 1, ?_, ?_, sub_intro hm [(0, some 0), (1, some 1), (2, some 2), (3, some 3), (4, some 4), (5, some 5), (6, some 6), (7, some 7), (8, some 8), (9, some 9), (10, some 10), (11, some 11), (12, some 12)] rfl ?_⟩
                            · omega
                            · omega
                            · rw [HF.out]
                              simp only [e1, e2, f1, f2, f3]
                              exact sd
                        · exact sd
                      · simp only [e1, e2, f1, f2, f3, hye]
                        exact sd
                    · simp only [e1, e2]
                      exact sd
                  · (refine lwp_drawn_pre hC (by rw [hP]; exact mixed) ⟨[(12, { b := some true }), (27, { b := some false })], [], []⟩ (told0 _ _) [0, 0, 3, 7, 15, 31, 0, 0, 192, 448, 960, 1984, 4095, 8191, 16383, 16383, 65535, 131071, 262143, 524287, 16383, 16383, 3162111, 7356415, 15745023, 32522239, 67108863, 134217727, 268435455, 536870911, 536870911, 2147483647, 4294967295, 8589934591] 31 rfl ?_ ?_; rotate_left 1)
                    · refine lops_tail hC (told0 _ [(31, { g := some false }), (32, { g := some false })]) (i := 31) (by decide) rfl ?_ ?_
                      · exact sd
                      · have f4 : R (k + 1) = R k := by rw [HRN.out k, if_neg (fun h => p2 (by rw [HXE.out]; exact (befS_iff.1 h).2))]
                        repeat first | refine lwp_seq fun K hK => ?_ | (with_reducible refine gA ?_; apply_assumption -exfalso -symm) | refine Stp.h ?_ | refine gF rfl ?_ | refine gG rfl ?_ | refine gM hC rfl sd ?_
                        refine lwp_condS hC rfl sd ?_ ?_ <;> intro hb
                        · simp at hb
                        · repeat first | refine lwp_seq fun K hK => ?_ | (with_reducible refine gA ?_; apply_assumption -exfalso -symm) | refine Stp.h ?_ | refine gF rfl ?_ | refine gG rfl ?_ | refine gM hC rfl sd ?_
                          refine gA ⟨k + 1, ?_, ?_, sub_intro hm [(0, some 0), (1, some 1), (2, some 2), (3, some 3), (4, some 4), (5, some 5), (6, some 6), (7, some 7), (8, some 8), (9, some 9), (10, some 10), (11, some 11), (12, some 12)] rfl ?_⟩
                          · omega
                          · omega
                          · rw [f4]
                            exact sd
                    · simp only [e1, e2]
                      exact sd
                · (refine lwp_drawn_pre hC (by rw [hP]; exact mixed) ⟨[(12, { b := some false }), (13, { b := some false }), (14, { g := some false }), (15, { g := some false }), (16, { g := some false }), (17, { g := some false }), (18, { g := some false }), (19, { g := some false }), (20, { g := some false }), (21, { g := some false }), (22, { g := some false }), (23, { g := some false }), (24, { g := some false }), (25, { g := some false }), (26, { g := some false }), (27, { b := some false })], [], []⟩ (told0 _ _) [0, 0, 3, 7, 15, 31, 0, 0, 192, 448, 960, 1984, 4095, 8191, 16383, 16383, 65535, 131071, 262143, 524287, 16383, 16383, 3162111, 7356415, 15745023, 32522239, 67108863, 134217727, 268435455, 536870911, 536870911, 2147483647, 4294967295, 8589934591] 31 rfl ?_ ?_; rotate_left 1)
                  · refine lops_tail hC (told0 _ [(31, { g := some false }), (32, { g := some false })]) (i := 31) (by decide) rfl ?_ ?_
                    · exact sd
                    · have f4 : R (k + 1) = R k := by rw [HRN.out k, if_neg (fun h => p1 (by rw [HXE.out]; exact (befS_iff.1 h).1))]
                      repeat first | refine lwp_seq fun K hK => ?_ | (with_reducible refine gA ?_; apply_assumption -exfalso -symm) | refine Stp.h ?_ | refine gF rfl ?_ | refine gG rfl ?_ | refine gM hC rfl sd ?_
                      refine lwp_condS hC rfl sd ?_ ?_ <;> intro hb
                      · simp at hb
                      · repeat first | refine lwp_seq fun K hK => ?_ | (with_reducible refine gA ?_; apply_assumption -exfalso -symm) | refine Stp.h ?_ | refine gF rfl ?_ | refine gG rfl ?_ | refine gM hC rfl sd ?_
                        refine gA ⟨k + 1, ?_, ?_, sub_intro hm [(0, some 0), (1, some 1), (2, some 2), (3, some 3), (4, some 4), (5, some 5), (6, some 6), (7, some 7), (8, some 8), (9, some 9), (10, some 10), (11, some 11), (12, some 12)] rfl ?_⟩
                        · omega
                        · omega
                        · rw [f4]
                          exact sd
                  · simp only [e1, e2]
                    exact sd
              · obtain rfl : k = i := by omega
                repeat first | refine lwp_seq fun K hK => ?_ | (with_reducible refine gA ?_; apply_assumption -exfalso -symm) | refine Stp.h ?_ | refine gF rfl ?_ | refine gG rfl ?_ | refine gM hC rfl sd ?_
                (refine ⟨by first | exact .inl rfl | exact .inr rfl, ?_⟩; (conv => whnf); have hP := hPo; have hm := hmo; have hC := hCo; have hrd := hrdo; (try (apply_assumption -exfalso -symm)))
                repeat first | refine lwp_seq fun K hK => ?_ | (with_reducible refine gA ?_; apply_assumption -exfalso -symm) | refine Stp.h ?_ | refine gF rfl ?_ | refine gG rfl ?_ | refine gM hC rfl sd ?_
                refine gA ⟨k + 1, ?_, ?_, sub_intro hm [(0, some 0), (1, some 1), (2, some 2), (3, some 3), (4, some 4), (5, some 5), (6, some 6), (7, some 7)] rfl ?_⟩
                · omega
                · omega
                · rw [HN.out]
                  exact sd
        · exact sd
      · simp only [e1]
        exact sd
    · repeat first | refine lwp_seq fun K hK => ?_ | (with_reducible refine gA ?_; apply_assumption -exfalso -symm) | refine Stp.h ?_ | refine gF rfl ?_ | refine gG rfl ?_ | refine gM hC rfl sd ?_
      obtain rfl : i = L.length := by omega
      (refine end_intro (by first | exact .inr rfl | exact .inl rfl) [(3, some 6)] rfl ?_)
      exact sd

end Go.Proofs.YtfmnfagcbehmdaaGreatDoor
