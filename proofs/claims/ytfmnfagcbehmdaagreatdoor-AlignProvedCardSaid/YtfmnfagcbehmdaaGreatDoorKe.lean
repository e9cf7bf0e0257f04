/- Chapter 5: what a table proves, the program's. -/
import Derived.Test.YtfmnfagcbehmdaaGreatDoorKd
set_option linter.unusedVariables false
set_option linter.unusedSimpArgs false
namespace Go.Proofs.YtfmnfagcbehmdaaGreatDoor
open Go.RowKit Go.Sym

theorem all_yes {p : Nat → Bool} {n : Nat} (h : ∀ i, i < n → p i = true) : (List.range n).all p = true := List.all_eq_true.2 fun i hi => h i (List.mem_range.1 hi)
theorem all_no {p : Nat → Bool} {n k : Nat} (hk : k < n) (h : p k = false) : (List.range n).all p = false := by
  cases e : (List.range n).all p with
  | false => rfl
  | true => have := List.all_eq_true.1 e k (List.mem_range.2 hk); rw [h] at this; cases this
theorem all_iff {p : Nat → Bool} {n : Nat} : (List.range n).all p = true ↔ ∀ i, i < n → p i = true := by
  rw [List.all_eq_true]
  exact ⟨fun h i hi => h i (List.mem_range.2 hi), fun h i hi => h i (List.mem_range.1 hi)⟩

def ent (R : Nat → List Int) (p : Int × Int) : Int := (R p.1.toNat).getD p.2.toNat 0
/-- An entry is there just where both are of one kind. -/
def kindE (m s : List Th) (R : Nat → List Int) (i k : Nat) : Bool := !(decide ((R i).getD k 0 < 0) == alikeS m s ((i : Int), (k : Int)))
def kindR (m s : List Th) (R : Nat → List Int) (i : Nat) : Bool := (List.range (R i).length).all (kindE m s R i)
def pairB (m s : List Th) (c : Cs) (R : Nat → List Int) (L : List St) (i k : Nat) : Bool := !(befS (stAt L k) (stAt L i)) || !(decide (ent R (stAt L i).p > ent R (stAt L k).p + grownS m s c (stAt L k).p (stAt L i).p))
def stepOkB (m s : List Th) (c : Cs) (R : Nat → List Int) (L : List St) (i : Nat) : Bool := !(decide (ent R (stAt L i).p > c.missed * (stAt L i).p.1)) && (List.range i).all (pairB m s c R L i)
def provesS (m s : List Th) (c : Cs) (n : Nat) (R : Nat → List Int) : Bool := (List.range n).all (kindR m s R) && (List.range (behindS m s c).length).all (stepOkB m s c R (behindS m s c))

/-- What holds of a table of the right form. -/
structure TabOk (m s : List Th) (n : Nat) (R : Nat → List Int) : Prop where
  hn : n = s.length
  hlen : ∀ e, e < n → (R e).length = m.length
  hrg : ∀ e, e < n → ∀ k, -1 ≤ (R e).getD k 0 ∧ (R e).getD k 0 ≤ 999999999
theorem TabOk.ent {m s : List Th} {n : Nat} {R : Nat → List Int} (h : TabOk m s n R) {p : Int × Int} (hp : inS m s p) : -1 ≤ ent R p ∧ ent R p ≤ 999999999 :=
  h.hrg _ (by have := h.hn; have := hp.1; omega) _

def prT (i n : Nat) : List (Nat × AV) := [(74, .fn 130 [] [.ptr 13 0 0 0, .ptr 12 0 0 0]), (46, i64 i), (45, i64 n), (44, .sl 7 n), (11, .ptr 8 0 0 0), (12, .ptr 9 0 0 0), (13, i64 i), (14, .ptr 10 0 0 0), (15, .ptr 11 0 0 0), (3, .ptr 4 0 0 0), (4, .ptr 5 0 0 0), (5, .ptr 6 0 0 0)]
def prH (m s : List Th) (c : Cs) (n : Nat) (R : Nat → List Int) (L : List St) (i : Nat) (x : St) : List (Nat × Chunk) := [(0, .ro m.length 2 (thC m)), (1, .ro s.length 2 (thC s)), (2, roF n R), (3, roT 2 n R), (4, .blk 38 [.sl 0 m.length, .sl 1 s.length]), (5, .blk 40 [i64 c.missed, i64 c.unseen, i64 c.stretch]), (6, .blk 52 [.sl 3 n]), (7, .row 141 L.length 5 (stC L)), (8, .blk 138 [.sl 7 L.length]), (9, .blk 4 [bl true]), (10, .blk 141 [i64 x.p.1, i64 x.p.2, i64 x.cost, i64 x.many, i64 x.next]), (11, .blk 3 [i64 (ent R x.p)]), (12, .blk 138 [.sl 7 L.length]), (13, .blk 3 [i64 i])]
def Proves_i (m s : List Th) (c : Cs) (n : Nat) (R : Nat → List Int) (σ : Ren) : Inst := { f := 80, hin := tabIn m s n R, args := [rdA m s, csA c, .sl 3 n], hout := [], ret := bl (provesS m s c n R), σ := σ }
set_option maxRecDepth 20000 in
set_option maxHeartbeats 4000000 in
theorem Proves_s (m s : List Th) (c : Cs) (n : Nat) (R : Nat → List Int) (σ : Ren) (hf : AFit m s c) (ht : TabOk m s n R) : (Proves_i m s c n R σ).ok Tryz.prog := by
  have hN4 := allP_len hf.l.1 hf.l.2
  have hBk : BOk m s (allP m s).length (behindS m s c) := behB_ok hf.c (last_ok hf.c hf.l.2 (fun i hi => allP_in i hi)) _ (Nat.le_refl _)
  have hL4 : (allP m s).length = (behindS m s c).length := hBk.1.symm
  have hl2 := hf.l
  have hns := ht.hn
  have hlen := ht.hlen
  have HT := Lib.hid ht
  have HB := Lib.hid hBk
  clear ht hBk
  unfold Proves_i Inst.ok; dsimp only; refine spec_of_body (tys := tys) 4 Tryz.func80 (by kernel_rfl) rfl tys_ok rfl (Nat.le_of_ble_eq_true rfl) (fun _ _ h => (by cases h)) fun F hP hm hC hrd => ?_; conv => whnf
  repeat first | refine lwp_seq fun K hK => ?_ | (with_reducible refine gA ?_; apply_assumption -exfalso -symm) | refine Stp.h ?_ | refine gF rfl ?_ | refine gG rfl ?_ | refine gM hC rfl sd ?_
  refine lwp_scope ?_
  repeat first | refine lwp_seq fun K hK => ?_ | (with_reducible refine gA ?_; apply_assumption -exfalso -symm) | refine Stp.h ?_ | refine gF rfl ?_ | refine gG rfl ?_ | refine gM hC rfl sd ?_
  refine lwp_loop (fun i : Nat => ⟨[(19, i64 i), (18, i64 n), (17, .sl 3 n), (3, .ptr 4 0 0 0), (4, .ptr 5 0 0 0), (5, .ptr 6 0 0 0)], [(0, .ro m.length 2 (thC m)), (1, .ro s.length 2 (thC s)), (2, roF n R), (3, roT 2 n R), (4, .blk 38 [.sl 0 m.length, .sl 1 s.length]), (5, .blk 40 [i64 c.missed, i64 c.unseen, i64 c.stretch]), (6, .blk 52 [.sl 3 n])], 7⟩) (fun i => i ≤ n ∧ ∀ e, e < i → kindR m s R e = true) (fun i => n - i) 0 ⟨?_, sub_intro hm [(0, some 0), (1, some 1), (2, some 2), (3, some 3), (4, some 4), (5, some 5), (6, some 6)] rfl ?_⟩ ?_
  · exact ⟨Nat.zero_le _, fun e he => absurd he (Nat.not_lt_zero _)⟩
  · exact sd
  · rintro i ⟨hi, hie⟩
    have e1 : (i : Int).toNat = i := Int.toNat_natCast i
    repeat first | refine lwp_seq fun K hK => ?_ | (with_reducible refine gA ?_; apply_assumption -exfalso -symm) | refine Stp.h ?_ | refine gF rfl ?_ | refine gG rfl ?_ | refine gM hC rfl sd ?_
    refine lwp_condS hC rfl sd ?_ ?_ <;> intro hb
    · have hin : i < n := by omega
      have hil := hlen i hin
      repeat first | refine lwp_seq fun K hK => ?_ | (with_reducible refine gA ?_; apply_assumption -exfalso -symm) | refine Stp.h ?_ | refine gF rfl ?_ | refine gG rfl ?_ | refine gM hC rfl sd ?_
      simp only [e1]
      refine lwp_loop (fun k : Nat => ⟨[(26, i64 k), (25, i64 (R i).length), (24, .tb 2 (.row i (R i).length)), (7, i64 i), (19, i64 i), (18, i64 n), (17, .sl 3 n), (3, .ptr 4 0 0 0), (4, .ptr 5 0 0 0), (5, .ptr 6 0 0 0)], [(0, .ro m.length 2 (thC m)), (1, .ro s.length 2 (thC s)), (2, roF n R), (3, roT 2 n R), (4, .blk 38 [.sl 0 m.length, .sl 1 s.length]), (5, .blk 40 [i64 c.missed, i64 c.unseen, i64 c.stretch]), (6, .blk 52 [.sl 3 n])], 7⟩) (fun k => k ≤ (R i).length ∧ ∀ e, e < k → kindE m s R i e = true) (fun k => (R i).length - k) 0 ⟨?_, sub_intro hm [(0, some 0), (1, some 1), (2, some 2), (3, some 3), (4, some 4), (5, some 5), (6, some 6)] rfl ?_⟩ ?_
      · exact ⟨Nat.zero_le _, fun e he => absurd he (Nat.not_lt_zero _)⟩
      · exact sd
      · rintro k ⟨hk, hke⟩
        have e2 : (k : Int).toNat = k := Int.toNat_natCast k
        repeat first | refine lwp_seq fun K hK => ?_ | (with_reducible refine gA ?_; apply_assumption -exfalso -symm) | refine Stp.h ?_ | refine gF rfl ?_ | refine gG rfl ?_ | refine gM hC rfl sd ?_
        refine lwp_condS hC rfl sd ?_ ?_ <;> intro hb
        · have hkn : k < (R i).length := by omega
          have hp : inS m s ((i : Int), (k : Int)) := ⟨⟨by show (0 : Int) ≤ i; omega, by show (i : Int) < _; omega⟩, by show (0 : Int) ≤ k; omega, by show (k : Int) < _; omega⟩
          repeat first | refine lwp_seq fun K hK => ?_ | (with_reducible refine gA ?_; apply_assumption -exfalso -symm) | refine Stp.h ?_ | refine gF rfl ?_ | refine gG rfl ?_ | refine gM hC rfl sd ?_
          simp only [e2]
          (refine lwp_region hC ⟨[], [], [(6, Alike_i m s ((i : Int), (k : Int)) [(0, some 0), (1, some 1)])]⟩ (told1 _ (by rw [hP]; exact (calls_cons (Alike_s _ _ _ _ (by omega) (by omega) hp) calls_nil))) rfl ?_ ?_; rotate_left 1)
          · repeat first | refine lwp_seq fun K hK => ?_ | (with_reducible refine gA ?_; apply_assumption -exfalso -symm) | refine Stp.h ?_ | refine gF rfl ?_ | refine gG rfl ?_ | refine gM hC rfl sd ?_
            refine lwp_condS hC rfl sd ?_ ?_ <;> intro hb
            · have hno : kindE m s R i k = false := by unfold kindE; rw [hb]; rfl
              have hpr : provesS m s c n R = false := by
                have h1 : kindR m s R i = false := all_no hkn hno
                unfold provesS
                rw [all_no hin h1]
                rfl
              repeat first | refine lwp_seq fun K hK => ?_ | (with_reducible refine gA ?_; apply_assumption -exfalso -symm) | refine Stp.h ?_ | refine gF rfl ?_ | refine gG rfl ?_ | refine gM hC rfl sd ?_
              (refine end_intro (by first | exact .inr rfl | exact .inl rfl) [(0, some 0), (1, some 1), (2, some 2), (3, some 3)] rfl ?_)
              rw [hpr]
              exact sd
            · have hyes : kindE m s R i k = true := by unfold kindE; rw [hb]; rfl
              repeat first | refine lwp_seq fun K hK => ?_ | (with_reducible refine gA ?_; apply_assumption -exfalso -symm) | refine Stp.h ?_ | refine gF rfl ?_ | refine gG rfl ?_ | refine gM hC rfl sd ?_
              refine gA ⟨k + 1, ?_, ?_, sub_intro hm [(0, some 0), (1, some 1), (2, some 2), (3, some 3), (4, some 4), (5, some 5), (6, some 6)] rfl ?_⟩
              · exact ⟨by omega, fun e he => by rcases Nat.lt_succ_iff_lt_or_eq.1 he with h | rfl; exact hke e h; exact hyes⟩
              · omega
              · exact sd
          · exact sd
        · obtain rfl : k = (R i).length := by omega
          have hyes : kindR m s R i = true := all_yes hke
          repeat first | refine lwp_seq fun K hK => ?_ | (with_reducible refine gA ?_; apply_assumption -exfalso -symm) | refine Stp.h ?_ | refine gF rfl ?_ | refine gG rfl ?_ | refine gM hC rfl sd ?_
          refine gA ⟨i + 1, ?_, ?_, sub_intro hm [(0, some 0), (1, some 1), (2, some 2), (3, some 3), (4, some 4), (5, some 5), (6, some 6)] rfl ?_⟩
          · exact ⟨by omega, fun e he => by rcases Nat.lt_succ_iff_lt_or_eq.1 he with h | rfl; exact hie e h; exact hyes⟩
          · omega
          · exact sd
    · obtain rfl : i = n := by omega
      have hall : (List.range i).all (kindR m s R) = true := all_yes hie
      have HALL := Lib.hid hall
      clear hall hie hb
      repeat first | refine lwp_seq fun K hK => ?_ | (with_reducible refine gA ?_; apply_assumption -exfalso -symm) | refine Stp.h ?_ | refine gF rfl ?_ | refine gG rfl ?_ | refine gM hC rfl ⟨⟩ ?_
      (refine lwp_region hC ⟨[], [], [(2, Behind_i m s c [(0, some 0), (1, some 1)])]⟩ (told1 _ (by rw [hP]; exact (calls_cons (Behind_s _ _ _ _ hf.c hf.l hf.pm hf.ps hf.km hf.ks) calls_nil))) rfl ?_ ?_; rotate_left 1)
      · have hPS : provesS m s c i R = ((List.range (behindS m s c).length).all (stepOkB m s c R (behindS m s c))) := by unfold provesS; rw [HALL.out]; rfl
        rw [hL4]
        have hB2 := HB.out
        rw [hL4] at hB2 hN4
        obtain ⟨L, hL⟩ : ∃ L, behindS m s c = L := ⟨_, rfl⟩
        rw [hL] at hPS hB2 hN4 ⊢
        have HB2 := Lib.hid hB2
        have HPS2 := Lib.hid hPS
        clear hPS hB2 hL4 hL HALL HB
        repeat first | refine lwp_seq fun K hK => ?_ | (with_reducible refine gA ?_; apply_assumption -exfalso -symm) | refine Stp.h ?_ | refine gF rfl ?_ | refine gG rfl ?_ | refine gM hC rfl sd ?_
        refine lwp_loop (fun j : Nat => ⟨[(46, i64 j), (45, i64 L.length), (44, .sl 7 L.length), (11, .ptr 8 0 0 0), (12, .ptr 9 0 0 0), (3, .ptr 4 0 0 0), (4, .ptr 5 0 0 0), (5, .ptr 6 0 0 0)], [(0, .ro m.length 2 (thC m)), (1, .ro s.length 2 (thC s)), (2, roF i R), (3, roT 2 i R), (4, .blk 38 [.sl 0 m.length, .sl 1 s.length]), (5, .blk 40 [i64 c.missed, i64 c.unseen, i64 c.stretch]), (6, .blk 52 [.sl 3 i]), (7, .row 141 L.length 5 (stC L)), (8, .blk 138 [.sl 7 L.length]), (9, .blk 4 [bl true])], 10⟩) (fun j => j ≤ L.length ∧ ∀ e, e < j → stepOkB m s c R L e = true) (fun j => L.length - j) 0 ⟨?_, sub_intro hm [(0, some 0), (1, some 1), (2, some 2), (3, some 3), (4, some 4), (5, some 5), (6, some 6), (7, some 7), (8, some 8), (9, some 10)] rfl ?_⟩ ?_
        · exact ⟨Nat.zero_le _, fun e he => absurd he (Nat.not_lt_zero _)⟩
        · exact sd
        · rintro j ⟨hj, hje⟩
          have e3 : (j : Int).toNat = j := Int.toNat_natCast j
          have HJE := Lib.hid hje
          clear hje
          repeat first | refine lwp_seq fun K hK => ?_ | (with_reducible refine gA ?_; apply_assumption -exfalso -symm) | refine Stp.h ?_ | refine gF rfl ?_ | refine gG rfl ?_ | refine gM hC rfl sd ?_
          refine lwp_condS hC rfl sd ?_ ?_ <;> intro hb
          · have hjl : j < L.length := by omega
            have hx : inS m s (L.getD j stD).p := (HB2.out.2 j hjl).1
            have hsb : stepOkB m s c R L j = (!(decide (ent R (L.getD j stD).p > c.missed * (L.getD j stD).p.1)) && (List.range j).all (pairB m s c R L j)) := rfl
            have hpb : ∀ k, pairB m s c R L j k = (!(befS (L.getD k stD) (L.getD j stD)) || !(decide (ent R (L.getD j stD).p > ent R (L.getD k stD).p + grownS m s c (L.getD k stD).p (L.getD j stD).p))) := fun k => rfl
            repeat first | refine lwp_seq fun K hK => ?_ | (with_reducible refine gA ?_; apply_assumption -exfalso -symm) | refine Stp.h ?_ | refine gF rfl ?_ | refine gG rfl ?_ | refine gM hC rfl sd ?_
            simp only [e3]
            obtain ⟨x, hxe⟩ : ∃ x, L.getD j stD = x := ⟨_, rfl⟩
            rw [hxe] at hx hsb
            simp only [hxe]
            have hxi := hx
            obtain ⟨⟨h1, h2⟩, h3, h4⟩ := hx
            have hex := HT.out.ent hxi
            have hxl := HT.out.hlen x.p.1.toNat (by omega)
            have hed : (R x.p.1.toNat).getD x.p.2.toNat 0 = ent R x.p := rfl
            have HSB := Lib.hid hsb
            have HPB := Lib.hid hpb
            have HXE := Lib.hid hxe
            clear hsb hpb hxe
            (refine lwp_drawn hC (by rw [hP]; exact mixed) ⟨[], [], []⟩ (told0 _ _) [0, 0, 2, 6, 15, 31, 0, 64, 192, 511, 1023, 0, 4095] 12 rfl ?_ ?_; rotate_left 1)
            · rw [hed]
              repeat first | refine lwp_seq fun K hK => ?_ | (with_reducible refine gA ?_; apply_assumption -exfalso -symm) | refine Stp.h ?_ | refine gF rfl ?_ | refine gG rfl ?_
              have k2 := mul_small (b := x.p.1) hf.c.1 (by omega)
              (refine lwp_drawn hC (by rw [hP]; exact mixed) ⟨[], [(8, custIx)], [(7, Ends_i m s c x.p x.p [(0, some 0), (1, some 1)])]⟩ ⟨(fun p hp => by rcases List.mem_cons.1 hp with rfl | hp; rw [hP]; exact custIx_ok; cases hp), (by rw [hP]; exact (calls_cons (Ends_s _ _ _ _ _ _ hf.c hl2.2 hxi hxi) calls_nil))⟩ [0, 0, 0, 0, 8, 0, 32, 126, 254, 511] 9 rfl ?_ ?_; rotate_left 1)
              · repeat first | refine lwp_seq fun K hK => ?_ | (with_reducible refine gA ?_; apply_assumption -exfalso -symm) | refine Stp.h ?_ | refine gF rfl ?_ | refine gG rfl ?_ | refine gM hC rfl sd ?_
                refine lwp_condS hC rfl sd ?_ ?_ <;> intro hb
                · have hno : provesS m s c i R = false := by
                    rw [HPS2.out]
                    refine all_no hjl ?_
                    rw [HSB.out, decide_eq_true hb]
                    rfl
                  repeat first | refine lwp_seq fun K hK => ?_ | (with_reducible refine gA ?_; apply_assumption -exfalso -symm) | refine Stp.h ?_ | refine gF rfl ?_ | refine gG rfl ?_ | refine gM hC rfl sd ?_
                  (refine end_intro (by first | exact .inr rfl | exact .inl rfl) [(0, some 0), (1, some 1), (2, some 2), (3, some 3)] rfl ?_)
                  rw [hno]
                  exact sd
                · have hx0 : decide (ent R x.p > c.missed * x.p.1) = false := decide_eq_false (by omega)
                  repeat first | refine lwp_seq fun K hK => ?_ | (with_reducible refine gA ?_; apply_assumption -exfalso -symm) | refine Stp.h ?_ | refine gF rfl ?_ | refine gG rfl ?_ | refine gM hC rfl ⟨⟩ ?_
                  (refine lwp_region hC ⟨[], [], [(2, Before_i L j [(0, some 7)])]⟩ (told1 _ (by rw [hP]; exact (calls_cons (Before_s _ _ _) calls_nil))) rfl ?_ ?_; rotate_left 1)
                  · repeat first | refine lwp_seq fun K hK => ?_ | (with_reducible refine gA ?_; apply_assumption -exfalso -symm) | refine Stp.h ?_ | refine gF rfl ?_ | refine gG rfl ?_
                    refine lwp_sub (t := ⟨prT j L.length, prH m s c i R L j x, 14⟩) (sub_intro hm [(0, some 0), (1, some 1), (2, some 2), (3, some 3), (4, some 4), (5, some 5), (6, some 6), (7, some 7), (8, some 8), (9, some 9), (10, some 10), (11, some 12), (12, some 14), (13, some 15)] rfl ?_) ?_
                    · exact sd
                    · (have hCo := hC; have hmo := hm; have hPo := hP; have hrdo := hrd; refine lwp_rangeG fun AS BD hAS hBD => ?_; refine lwp_range hC hrd (f := 130) rfl ⟨⟩ (by rw [hP]; exact Tryz.func130) rfl rfl rfl rfl rfl fun F1 hP1 hm1 hC1 hrd1 => ?_; have hP := hP1.trans hP; have hm := hm1; have hC := hC1; have hrd := hrd1; clear hP1 hm1 hC1 hrd1; dsimp only at hC; conv => whnf)
                      repeat first | refine lwp_seq fun K hK => ?_ | (with_reducible refine gA ?_; apply_assumption -exfalso -symm) | refine Stp.h ?_ | refine gF rfl ?_ | refine gG rfl ?_ | refine gM hC rfl sd ?_
                      refine lwp_loop (fun k : Nat => ⟨[(0, .yld 14), (1, .ptr 13 0 0 0), (2, .ptr 12 0 0 0), (5, i64 j), (6, i64 k)], (14, .obj (.rcd (prT j L.length) 108 #[75] AS BD .ready)) :: prH m s c i R L j x, 15⟩) (fun k => k ≤ j ∧ ∀ e, e < k → pairB m s c R L j e = true) (fun k => j - k) 0 ⟨?_, sub_intro hm [(0, some 0), (1, some 1), (2, some 2), (3, some 3), (4, some 4), (5, some 5), (6, some 6), (7, some 7), (8, some 8), (9, some 9), (10, some 10), (11, some 11), (12, some 12), (13, some 13), (14, some 14)] rfl ?_⟩ ?_
                      · exact ⟨Nat.zero_le _, fun e he => absurd he (Nat.not_lt_zero _)⟩
                      · exact sd
                      · rintro k ⟨hk, hke⟩
                        have e4 : (k : Int).toNat = k := Int.toNat_natCast k
                        have HKE := Lib.hid hke
                        clear hke
                        repeat first | refine lwp_seq fun K hK => ?_ | (with_reducible refine gA ?_; apply_assumption -exfalso -symm) | refine Stp.h ?_ | refine gF rfl ?_ | refine gG rfl ?_ | refine gM hC rfl sd ?_
                        refine lwp_condS hC rfl sd ?_ ?_ <;> intro hb
                        · have hkj : k < j := by omega
                          repeat first | refine lwp_seq fun K hK => ?_ | (with_reducible refine gA ?_; apply_assumption -exfalso -symm) | refine Stp.h ?_ | refine gF rfl ?_ | refine gG rfl ?_ | refine gM hC rfl sd ?_
                          have hstep : pairB m s c R L j k = true → (k + 1 ≤ j ∧ ∀ e, e < k + 1 → pairB m s c R L j e = true) := fun h => ⟨by omega, fun e he => by rcases Nat.lt_succ_iff_lt_or_eq.1 he with h1 | rfl; exact HKE.out e h1; exact h⟩
                          by_cases p1 : (L.getD k stD).p.1 < (L.getD j stD).p.1
                          · by_cases p2 : (L.getD k stD).p.2 < (L.getD j stD).p.2
                            · (refine lwp_drawn_pre hC (by rw [hP]; exact mixed) ⟨[(12, { b := some true }), (27, { b := some true })], [], []⟩ (told0 _ _) [0, 0, 3, 7, 15, 31, 0, 0, 192, 448, 960, 1984, 4095, 8191, 16383, 16383, 65535, 131071, 262143, 524287, 16383, 16383, 3162111, 7356415, 15745023, 32522239, 67108863, 134217727, 268435455, 536870911, 536870911, 2147483647, 4294967295, 8589934591] 31 rfl ?_ ?_; rotate_left 1)
                              · (refine lops_yield hC (j := 31) (idx := [32, 33]) rfl (fun _ _ h => by cases h; rfl) rfl (by exact sd) fun F2 hP2 hm2 hC2 => ?_; have hP1o := hP; have hm1o := hm; have hC1o := hC; have hrd1o := hrd; have hP := hP2.trans hP; have hm := hm2; have hC := hC2; clear hP2 hm2 hC2; dsimp only at hC hm; subst hAS hBD; dsimp only)
                                have hyi : inS m s (L.getD k stD).p := (HB2.out.2 k (by omega)).1
                                have hbf : befS (L.getD k stD) x = true := befS_iff.2 (by rw [← HXE.out]; exact ⟨p1, p2⟩)
                                have hpk := HPB.out k
                                rw [HXE.out, hbf] at hpk
                                obtain ⟨y, hye⟩ : ∃ y, L.getD k stD = y := ⟨_, rfl⟩
                                rw [hye] at hyi hpk
                                have hyy := hyi
                                obtain ⟨⟨g1, g2⟩, g3, g4⟩ := hyy
                                have hgs := grownS_small hf.c hl2 hf.pm hf.ps hyi hxi
                                have hey := HT.out.ent hyi
                                have hyl := HT.out.hlen y.p.1.toNat (by omega)
                                have hedy : (R y.p.1.toNat).getD y.p.2.toNat 0 = ent R y.p := rfl
                                have HPK := Lib.hid hpk
                                clear hpk p1 p2
                                repeat first | refine lwp_seq fun K hK => ?_ | (with_reducible refine gA ?_; apply_assumption -exfalso -symm) | refine Stp.h ?_ | refine gF rfl ?_ | refine gG rfl ?_ | refine gM hC rfl sd ?_
                                (refine ⟨rfl, ?_⟩; (conv => whnf))
                                repeat first | refine lwp_seq fun K hK => ?_ | (with_reducible refine gA ?_; apply_assumption -exfalso -symm) | refine Stp.h ?_ | refine gF rfl ?_ | refine gG rfl ?_ | refine gM hC rfl sd ?_
                                (refine lwp_drawn2 hC (by rw [hP]; exact mixed) ⟨[], [], [(27, Grown_i m s c y.p x.p [(0, some 0), (1, some 1)])]⟩ (told1 _ (by rw [hP]; exact (calls_cons (Grown_s _ _ _ _ _ _ hf.c hl2 hf.pm hf.ps hyi hxi) calls_nil))) [0, 0, 0, 0, 12, 28, 60, 124, 254, 510, 0, 0, 3072, 7168, 15360, 31744, 65534, 131070, 0, 0, 0, 0, 3145728, 7340032, 15728640, 0, 33554432, 133955584, 268435454, 536870911] 30 0 rfl ?_ ?_; rotate_left 1)
                                · simp only [e4, hye, hedy]
                                  repeat first | refine lwp_seq fun K hK => ?_ | (with_reducible refine gA ?_; apply_assumption -exfalso -symm) | refine Stp.h ?_ | refine gF rfl ?_ | refine gG rfl ?_ | refine gM hC rfl sd ?_
                                  refine lwp_condS hC rfl sd ?_ ?_ <;> intro hb
                                  · have hno : provesS m s c i R = false := by
                                      rw [HPS2.out]
                                      refine all_no hjl ?_
                                      rw [HSB.out, all_no hkj (show pairB m s c R L j k = false by rw [HPK.out, decide_eq_true hb]; rfl)]
                                      simp
                                    repeat first | refine lwp_seq fun K hK => ?_ | (with_reducible refine gA ?_; apply_assumption -exfalso -symm) | refine Stp.h ?_ | refine gF rfl ?_ | refine gG rfl ?_ | refine gM hC rfl sd ?_
                                    ((conv => whnf); refine ⟨_, rfl, ?_⟩; have hP := hP1o; have hm := hm1o; have hC := hC1o; have hrd := hrd1o; refine lops_tail hC (told0 _ []) (i := 32) (by decide) rfl ?_ ?_; rotate_left 1)
                                    · repeat first | refine lwp_seq fun K hK => ?_ | (with_reducible refine gA ?_; apply_assumption -exfalso -symm) | refine Stp.h ?_ | refine gF rfl ?_ | refine gG rfl ?_ | refine gM hC rfl sd ?_
                                      refine lwp_condS hC rfl sd ?_ ?_ <;> intro hb
                                      · repeat first | refine lwp_seq fun K hK => ?_ | (with_reducible refine gA ?_; apply_assumption -exfalso -symm) | refine Stp.h ?_ | refine gF rfl ?_ | refine gG rfl ?_ | refine gM hC rfl sd ?_
                                        (refine ⟨by first | exact .inl rfl | exact .inr rfl, ?_⟩; (conv => whnf); have hP := hPo; have hm := hmo; have hC := hCo; have hrd := hrdo; (try (apply_assumption -exfalso -symm)))
                                        repeat first | refine lwp_seq fun K hK => ?_ | (with_reducible refine gA ?_; apply_assumption -exfalso -symm) | refine Stp.h ?_ | refine gF rfl ?_ | refine gG rfl ?_ | refine gM hC rfl sd ?_
                                        (refine end_intro (by first | exact .inr rfl | exact .inl rfl) [(0, some 0), (1, some 1), (2, some 2), (3, some 3)] rfl ?_)
                                        rw [hno]
                                        exact sd
                                      · simp at hb
                                    · exact sd
                                  · have hyes : pairB m s c R L j k = true := by rw [HPK.out, decide_eq_false (show ¬ (ent R x.p > ent R y.p + grownS m s c y.p x.p) by omega)]; rfl
                                    repeat first | refine lwp_seq fun K hK => ?_ | (with_reducible refine gA ?_; apply_assumption -exfalso -symm) | refine Stp.h ?_ | refine gF rfl ?_ | refine gG rfl ?_ | refine gM hC rfl sd ?_
                                    ((conv => whnf); refine ⟨_, rfl, ?_⟩; have hP := hP1o; have hm := hm1o; have hC := hC1o; have hrd := hrd1o; refine lops_tail hC (told0 _ []) (i := 32) (by decide) rfl ?_ ?_; rotate_left 1)
                                    · repeat first | refine lwp_seq fun K hK => ?_ | (with_reducible refine gA ?_; apply_assumption -exfalso -symm) | refine Stp.h ?_ | refine gF rfl ?_ | refine gG rfl ?_ | refine gM hC rfl sd ?_
                                      refine lwp_condS hC rfl sd ?_ ?_ <;> intro hb
                                      · simp at hb
                                      · repeat first | refine lwp_seq fun K hK => ?_ | (with_reducible refine gA ?_; apply_assumption -exfalso -symm) | refine Stp.h ?_ | refine gF rfl ?_ | refine gG rfl ?_ | refine gM hC rfl sd ?_
                                        refine gA ⟨k + 1, ?_, ?_, sub_intro hm [(0, some 0), (1, some 1), (2, some 2), (3, some 3), (4, some 4), (5, some 5), (6, some 6), (7, some 7), (8, some 8), (9, some 9), (10, some 10), (11, some 11), (12, some 12), (13, some 13), (14, some 14)] rfl ?_⟩
                                        · exact hstep hyes
                                        · omega
                                        · exact sd
                                    · exact sd
                                · simp only [e4, hye, hedy]
                                  exact sd
                              · simp only [e3, e4]
                                exact sd
                            · (refine lwp_drawn_pre hC (by rw [hP]; exact mixed) ⟨[(12, { b := some true }), (27, { b := some false })], [], []⟩ (told0 _ _) [0, 0, 3, 7, 15, 31, 0, 0, 192, 448, 960, 1984, 4095, 8191, 16383, 16383, 65535, 131071, 262143, 524287, 16383, 16383, 3162111, 7356415, 15745023, 32522239, 67108863, 134217727, 268435455, 536870911, 536870911, 2147483647, 4294967295, 8589934591] 31 rfl ?_ ?_; rotate_left 1)
                              · refine lops_tail hC (told0 _ [(31, { g := some false }), (32, { g := some false })]) (i := 31) (by decide) rfl ?_ ?_
                                · exact sd
                                · have hyes : pairB m s c R L j k = true := by rw [HPB.out k, show befS (L.getD k stD) (L.getD j stD) = false from by cases q : befS (L.getD k stD) (L.getD j stD) with | false => rfl | true => exact absurd (befS_iff.1 q).2 p2]; rfl
                                  repeat first | refine lwp_seq fun K hK => ?_ | (with_reducible refine gA ?_; apply_assumption -exfalso -symm) | refine Stp.h ?_ | refine gF rfl ?_ | refine gG rfl ?_ | refine gM hC rfl sd ?_
                                  refine lwp_condS hC rfl sd ?_ ?_ <;> intro hb
                                  · simp at hb
                                  · repeat first | refine lwp_seq fun K hK => ?_ | (with_reducible refine gA ?_; apply_assumption -exfalso -symm) | refine Stp.h ?_ | refine gF rfl ?_ | refine gG rfl ?_ | refine gM hC rfl sd ?_
                                    refine gA ⟨k + 1, ?_, ?_, sub_intro hm [(0, some 0), (1, some 1), (2, some 2), (3, some 3), (4, some 4), (5, some 5), (6, some 6), (7, some 7), (8, some 8), (9, some 9), (10, some 10), (11, some 11), (12, some 12), (13, some 13), (14, some 14)] rfl ?_⟩
                                    · exact hstep hyes
                                    · omega
                                    · exact sd
                              · simp only [e3, e4]
                                exact sd
                          · (refine lwp_drawn_pre hC (by rw [hP]; exact mixed) ⟨[(12, { b := some false }), (13, { b := some false }), (14, { g := some false }), (15, { g := some false }), (16, { g := some false }), (17, { g := some false }), (18, { g := some false }), (19, { g := some false }), (20, { g := some false }), (21, { g := some false }), (22, { g := some false }), (23, { g := some false }), (24, { g := some false }), (25, { g := some false }), (26, { g := some false }), (27, { b := some false })], [], []⟩ (told0 _ _) [0, 0, 3, 7, 15, 31, 0, 0, 192, 448, 960, 1984, 4095, 8191, 16383, 16383, 65535, 131071, 262143, 524287, 16383, 16383, 3162111, 7356415, 15745023, 32522239, 67108863, 134217727, 268435455, 536870911, 536870911, 2147483647, 4294967295, 8589934591] 31 rfl ?_ ?_; rotate_left 1)
                            · refine lops_tail hC (told0 _ [(31, { g := some false }), (32, { g := some false })]) (i := 31) (by decide) rfl ?_ ?_
                              · exact sd
                              · have hyes : pairB m s c R L j k = true := by rw [HPB.out k, show befS (L.getD k stD) (L.getD j stD) = false from by cases q : befS (L.getD k stD) (L.getD j stD) with | false => rfl | true => exact absurd (befS_iff.1 q).1 p1]; rfl
                                repeat first | refine lwp_seq fun K hK => ?_ | (with_reducible refine gA ?_; apply_assumption -exfalso -symm) | refine Stp.h ?_ | refine gF rfl ?_ | refine gG rfl ?_ | refine gM hC rfl sd ?_
                                refine lwp_condS hC rfl sd ?_ ?_ <;> intro hb
                                · simp at hb
                                · repeat first | refine lwp_seq fun K hK => ?_ | (with_reducible refine gA ?_; apply_assumption -exfalso -symm) | refine Stp.h ?_ | refine gF rfl ?_ | refine gG rfl ?_ | refine gM hC rfl sd ?_
                                  refine gA ⟨k + 1, ?_, ?_, sub_intro hm [(0, some 0), (1, some 1), (2, some 2), (3, some 3), (4, some 4), (5, some 5), (6, some 6), (7, some 7), (8, some 8), (9, some 9), (10, some 10), (11, some 11), (12, some 12), (13, some 13), (14, some 14)] rfl ?_⟩
                                  · exact hstep hyes
                                  · omega
                                  · exact sd
                            · simp only [e3, e4]
                              exact sd
                        · obtain rfl : k = j := by omega
                          have hyes : stepOkB m s c R L k = true := by rw [HSB.out, hx0, all_yes HKE.out]; rfl
                          repeat first | refine lwp_seq fun K hK => ?_ | (with_reducible refine gA ?_; apply_assumption -exfalso -symm) | refine Stp.h ?_ | refine gF rfl ?_ | refine gG rfl ?_ | refine gM hC rfl sd ?_
                          (refine ⟨by first | exact .inl rfl | exact .inr rfl, ?_⟩; (conv => whnf); have hP := hPo; have hm := hmo; have hC := hCo; have hrd := hrdo; (try (apply_assumption -exfalso -symm)))
                          repeat first | refine lwp_seq fun K hK => ?_ | (with_reducible refine gA ?_; apply_assumption -exfalso -symm) | refine Stp.h ?_ | refine gF rfl ?_ | refine gG rfl ?_ | refine gM hC rfl sd ?_
                          refine gA ⟨k + 1, ?_, ?_, sub_intro hm [(0, some 0), (1, some 1), (2, some 2), (3, some 3), (4, some 4), (5, some 5), (6, some 6), (7, some 7), (8, some 8), (9, some 9)] rfl ?_⟩
                          · exact ⟨by omega, fun e he => by rcases Nat.lt_succ_iff_lt_or_eq.1 he with h | rfl; exact HJE.out e h; exact hyes⟩
                          · omega
                          · exact sd
                  · exact sd
              · exact sd
            · exact sd
          · obtain rfl : j = L.length := by omega
            have hyes : provesS m s c i R = true := by rw [HPS2.out]; exact all_yes HJE.out
            repeat first | refine lwp_seq fun K hK => ?_ | (with_reducible refine gA ?_; apply_assumption -exfalso -symm) | refine Stp.h ?_ | refine gF rfl ?_ | refine gG rfl ?_ | refine gM hC rfl sd ?_
            (refine end_intro (by first | exact .inr rfl | exact .inl rfl) [(0, some 0), (1, some 1), (2, some 2), (3, some 3)] rfl ?_)
            rw [hyes]
            exact sd
      · exact sd

end Go.Proofs.YtfmnfagcbehmdaaGreatDoor
