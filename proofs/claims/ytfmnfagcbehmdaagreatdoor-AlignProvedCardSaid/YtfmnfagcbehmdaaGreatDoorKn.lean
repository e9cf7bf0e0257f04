/- Chapter 5: the sure pairs, the program's. -/
import Derived.Test.YtfmnfagcbehmdaaGreatDoorKb
set_option linter.unusedVariables false
set_option linter.unusedSimpArgs false
namespace Go.Sym
open Go.RowKit

/-- The ways through a statement meet behind it. -/
theorem lwp_cut {F : Frm} {x y : Code} {Q : Exit → St → Prop} {s t : St} (h1 : LWP F x (thenS (fun s' => Sub F s' t) Q) s) (h2 : LWP F y Q t) : LWP F (.seq x y) Q s :=
 lwp_seq fun K hK => lwp_mono h1 fun e s' h => by
  cases e with
  | normal => exact hK s' (lwp_sub h h2)
  | _ => exact h

end Go.Sym

namespace Go.Proofs.YtfmnfagcbehmdaaGreatDoor
open Go.RowKit Go.Sym

/-- So many truth values are set, from one on. -/
def fillB (B : List Bool) (a : Nat) : Nat → List Bool
 | 0 => B
 | j + 1 => (fillB B a j).set (a + j) true
theorem fillB_len (B : List Bool) (a j : Nat) : (fillB B a j).length = B.length := by
 induction j with
 | zero => rfl
 | succ j ih => simp [fillB, ih]
/-- What lies between two sights is left out. -/
def leaveB (B : List Bool) (x y : Int) : List Bool := fillB B (x + 1).toNat (y - (x + 1)).toNat
theorem leaveB_len (B : List Bool) (x y : Int) : (leaveB B x y).length = B.length := fillB_len _ _ _
def Leave_i (B : List Bool) (x y : Int) (σ : Ren) : Inst := { f := 70, hin := [(0, .row 4 B.length 1 (.bools B)), (1, .rb 147 [.sl 0 B.length])], args := [i64 x, i64 y, .ptr 1 0 0 0], hout := [(0, .row 4 B.length 1 (.bools (leaveB B x y)))], ret := .tup [], σ := σ }
theorem Leave_s (B : List Bool) (x y : Int) (σ : Ren) (hB : B.length ≤ 1000000) (hx : -1 ≤ x ∧ x ≤ 1000000) (hy : 0 ≤ y ∧ y ≤ B.length) : (Leave_i B x y σ).ok Tryz.prog := by
 have hfl := fillB_len B (x + 1).toNat
 have HFL := Lib.hid hfl
 clear hfl
 unfold Leave_i Inst.ok; dsimp only; refine spec_of_body (tys := tys) 2 Tryz.func70 (by kernel_rfl) rfl tys_ok rfl (Nat.le_of_ble_eq_true rfl) (fun _ _ h => (by cases h)) fun F hP hm hC hrd => ?_; conv => whnf
 repeat first | refine lwp_seq fun K hK => ?_ | (with_reducible refine gA ?_; apply_assumption -exfalso -symm) | refine Stp.h ?_ | refine gF rfl ?_ | refine gG rfl ?_ | refine gM hC rfl sd ?_
 refine lwp_loop (fun j : Nat => ⟨[(5, i64 (x + 1 + j)), (1, i64 y), (2, .ptr 1 0 0 0)], [(0, .row 4 B.length 1 (.bools (fillB B (x + 1).toNat j))), (1, .rb 147 [.sl 0 B.length])], 2⟩) (fun j => j ≤ (y - (x + 1)).toNat) (fun j => (y - (x + 1)).toNat - j) 0 ⟨?_, sub_intro hm [(0, some 0), (1, some 1)] rfl ?_⟩ ?_
 ·exact Nat.zero_le _
 ·exact sd
 ·rintro j hj
  have e1 : (x + 1 + (j : Int)).toNat = (x + 1).toNat + j := by omega
  repeat first | refine lwp_seq fun K hK => ?_ | (with_reducible refine gA ?_; apply_assumption -exfalso -symm) | refine Stp.h ?_ | refine gF rfl ?_ | refine gG rfl ?_ | refine gM hC rfl sd ?_
  refine lwp_condS hC rfl sd ?_ ?_ <;> intro hb
  ·have hjl : j < (y - (x + 1)).toNat := by omega
   have hl := HFL.out j
   have hst : fillB B (x + 1).toNat (j + 1) = (fillB B (x + 1).toNat j).set ((x + 1).toNat + j) true := rfl
   repeat first | refine lwp_seq fun K hK => ?_ | (with_reducible refine gA ?_; apply_assumption -exfalso -symm) | refine Stp.h ?_ | refine gF rfl ?_ | refine gG rfl ?_ | refine gM hC rfl sd ?_
   simp only [e1]
   refine gA ⟨j + 1, ?_, ?_, sub_intro hm [(0, some 0), (1, some 1)] rfl ?_⟩
   ·omega
   ·omega
   ·rw [hst]
    exact sd
  ·obtain rfl : j = (y - (x + 1)).toNat := by omega
   repeat first | refine lwp_seq fun K hK => ?_ | (with_reducible refine gA ?_; apply_assumption -exfalso -symm) | refine Stp.h ?_ | refine gF rfl ?_ | refine gG rfl ?_ | refine gM hC rfl sd ?_
   (refine end_intro (by first | exact .inr rfl | exact .inl rfl) [(0, some 0), (1, some 1)] rfl ?_)
   rw [show leaveB B x y = fillB B (x + 1).toNat (y - (x + 1)).toNat from rfl]
   exact sd

/-- State i lies on an alignment of the least cost. -/
def onB (L : List St) (A : List Int) (least : Int) (i : Nat) : Bool := decide (A.getD i 0 + (stAt L i).cost = least)
def endB (s : List Th) (c : Cs) (L : List St) (A : List Int) (least : Int) (i : Nat) (B : List Bool) : List Bool :=
 let B1 := if c.missed * (stAt L i).p.1 + (stAt L i).cost = least then leaveB B (-1) (stAt L i).p.1 else B
 if A.getD i 0 + c.missed * (s.length - 1 - (stAt L i).p.1) = least then leaveB B1 (stAt L i).p.1 s.length else B1
def innB (m s : List Th) (c : Cs) (L : List St) (A : List Int) (least : Int) (i : Nat) (B : List Bool) : Nat → List Bool
 | 0 => B
 | k + 1 => if befS (stAt L k) (stAt L i) = true ∧ A.getD k 0 + grownS m s c (stAt L k).p (stAt L i).p + (stAt L i).cost = least then leaveB (innB m s c L A least i B k) (stAt L k).p.1 (stAt L i).p.1 else innB m s c L A least i B k
/-- Which sights some of these alignments leave out, by the first states. -/
def leftB (m s : List Th) (c : Cs) (L : List St) (A : List Int) (least : Int) : Nat → List Bool
 | 0 => List.replicate s.length false
 | i + 1 => if onB L A least i = true then innB m s c L A least i (endB s c L A least i (leftB m s c L A least i)) i else leftB m s c L A least i
/-- How many of the first states, of each sight, lie on such alignments. -/
def manyM (s : List Th) (L : List St) (A : List Int) (least : Int) : Nat → List Int
 | 0 => List.replicate s.length 0
 | i + 1 => if onB L A least i = true then (manyM s L A least i).set (stAt L i).p.1.toNat ((manyM s L A least i).getD (stAt L i).p.1.toNat 0 + 1) else manyM s L A least i
def sureB (m s : List Th) (c : Cs) (L : List St) (A : List Int) (least : Int) (n i : Nat) : Bool :=
 bif onB L A least i then (bif decide ((manyM s L A least n).getD (stAt L i).p.1.toNat 0 = 1) then !((leftB m s c L A least n).getD (stAt L i).p.1.toNat false) else false) else false
def sureP (m s : List Th) (c : Cs) (L : List St) (A : List Int) (least : Int) (n : Nat) : Nat → List (Int × Int)
 | 0 => []
 | i + 1 => if sureB m s c L A least n i = true then sureP m s c L A least n i ++ [(stAt L i).p] else sureP m s c L A least n i
theorem endB_len (s : List Th) (c : Cs) (L : List St) (A : List Int) (least : Int) (i : Nat) (B : List Bool) : (endB s c L A least i B).length = B.length := by
 unfold endB
 dsimp only
 split <;> split <;> simp [leaveB_len]
theorem innB_len (m s : List Th) (c : Cs) (L : List St) (A : List Int) (least : Int) (i : Nat) (B : List Bool) (k : Nat) : (innB m s c L A least i B k).length = B.length := by
 induction k with
 | zero => rfl
 | succ k ih => unfold innB; split <;> simp [leaveB_len, ih]
theorem leftB_len (m s : List Th) (c : Cs) (L : List St) (A : List Int) (least : Int) (i : Nat) : (leftB m s c L A least i).length = s.length := by
 induction i with
 | zero => simp [leftB]
 | succ i ih => unfold leftB; split <;> simp [innB_len, endB_len, ih]
theorem manyM_len (s : List Th) (L : List St) (A : List Int) (least : Int) (i : Nat) : (manyM s L A least i).length = s.length := by
 induction i with
 | zero => simp [manyM]
 | succ i ih => unfold manyM; split <;> simp [ih]
theorem manyM_bound (s : List Th) (L : List St) (A : List Int) (least : Int) (q : Nat) : ∀ i, 0 ≤ (manyM s L A least i).getD q 0 ∧ (manyM s L A least i).getD q 0 ≤ i
 | 0 => by unfold manyM; by_cases h : q < s.length <;> simp [List.getD, h]
 | i + 1 => by
  have ih := manyM_bound s L A least q i
  have ih2 := manyM_bound s L A least (stAt L i).p.1.toNat i
  unfold manyM
  split
  ·rw [List.getD_eq_getElem?_getD, List.getElem?_set]
   split
   ·split
    ·simp only [Option.getD_some]; omega
    ·simp; omega
   ·rw [← List.getD_eq_getElem?_getD]; omega
  ·omega

def sureE (m s : List Th) (c : Cs) : Bool := decide ((headS m s c).cost = c.missed * s.length)
def sureL (m s : List Th) (c : Cs) : List (Int × Int) :=
 if aligE m s c ≠ 0 then [] else if (headS m s c).cost = c.missed * s.length then [] else
  sureP m s c (behindS m s c) (aheadS m s c (behindS m s c)) (headS m s c).cost (behindS m s c).length (behindS m s c).length

def suT (i : Nat) (n' : Nat) (k : Nat) : List (Nat × AV) := [(124, .fn 130 [] [.ptr 16 0 0 0, .ptr 15 0 0 0]), (64, i64 i), (63, i64 n'), (62, .sl 5 n'), (15, i64 i), (16, .ptr 13 0 0 0), (17, .ptr 14 0 0 0), (2, .ptr 2 0 0 0), (3, .ptr 3 0 0 0), (8, .ptr 4 0 0 0), (10, .ptr 6 0 0 0), (11, .ptr 8 0 0 0), (12, .sl 9 k), (13, .ptr 11 0 0 0), (14, .ptr 12 0 0 0)]
def suH (m s : List Th) (c : Cs) (n : Int) (L : List St) (A M : List Int) (B : List Bool) (i : Nat) (x : St) : List (Nat × Chunk) := [(0, .ro m.length 2 (thC m)), (1, .ro s.length 2 (thC s)), (2, .blk 38 [.sl 0 m.length, .sl 1 s.length]), (3, .blk 40 [i64 c.missed, i64 c.unseen, i64 c.stretch]), (4, .blk 3 [i64 n]), (5, .row 141 L.length 5 (stC L)), (6, .blk 138 [.sl 5 L.length]), (7, .row 3 L.length 1 (.ints .i64 A)), (8, .blk 45 [.sl 7 L.length]), (9, .row 3 s.length 1 (.ints .i64 (M))), (10, .row 4 s.length 1 (.bools (B))), (11, .blk 147 [.sl 10 s.length]), (12, .blk 148 [.fn 70 [] [.ptr 11 0 0 0]]), (13, .blk 141 [i64 x.p.1, i64 x.p.2, i64 x.cost, i64 x.many, i64 x.next]), (14, .blk 115 [i64 (c.missed * x.p.1), i64 (c.missed * (s.length - 1 - x.p.1))]), (15, .blk 138 [.sl 5 L.length]), (16, .blk 3 [i64 i])]
def Sure_i (m s : List Th) (c : Cs) (σ : Ren) : Inst := { f := 14, hin := rideIn m s, args := [rdA m s, csA c], hout := [(2, .row 75 (sureL m s c).length 2 (prC (sureL m s c)))], ret := .tup [.sl 2 (sureL m s c).length, i64 (aligE m s c)], σ := σ }
set_option maxRecDepth 40000 in
set_option maxHeartbeats 8000000 in
theorem Sure_s (m s : List Th) (c : Cs) (σ : Ren) (hm' : m.length ≤ 1000000) (hs : s.length ≤ 1000000) : (Sure_i m s c σ).ok Tryz.prog := by
 unfold Sure_i Inst.ok; dsimp only; refine spec_of_body (tys := tys) 2 Tryz.func14 (by kernel_rfl) rfl tys_ok rfl (Nat.le_of_ble_eq_true rfl) (fun _ _ h => (by cases h)) fun F hP hm hC hrd => ?_; conv => whnf
 repeat first | refine lwp_seq fun K hK => ?_ | (with_reducible refine gA ?_; apply_assumption -exfalso -symm) | refine Stp.h ?_ | refine gF rfl ?_ | refine gG rfl ?_ | refine gM hC rfl sd ?_
 (refine lwp_drawn hC (by rw [hP]; exact mixed) ⟨[], [], [(1, Ride_i m s [(0, some 0), (1, some 1)]), (3, Costs_i c.missed c.unseen c.stretch), (5, AFirst_i [rideS m s, costsS c.missed c.unseen c.stretch] [(0, some 4)])]⟩ (told1 _ (by rw [hP]; exact (calls_cons (Ride_s _ _ _ hm' hs) (calls_cons (Costs_s _ _ _) (calls_cons (AFirst_s _ _ (by simp)) calls_nil))))) [0, 1, 0, 7, 15, 31, 63] 3 rfl ?_ ?_; rotate_left 1)
 ·repeat first | refine lwp_seq fun K hK => ?_ | (with_reducible refine gA ?_; apply_assumption -exfalso -symm) | refine Stp.h ?_ | refine gF rfl ?_ | refine gG rfl ?_ | refine gM hC rfl sd ?_
  refine lwp_condS hC rfl sd ?_ ?_ <;> intro hb
  ·have hb' : aligE m s c ≠ 0 := hb
   repeat first | refine lwp_seq fun K hK => ?_ | (with_reducible refine gA ?_; apply_assumption -exfalso -symm) | refine Stp.h ?_ | refine gF rfl ?_ | refine gG rfl ?_ | refine gM hC rfl sd ?_
   rw [show sureL m s c = [] from if_pos hb']
   (refine end_intro (by first | exact .inr rfl | exact .inl rfl) [(2, none)] rfl ?_)
   exact sd
  ·have hb' : aligE m s c = 0 := hb
   have hf := afit_of hb'
   have hAN : aligN m s c = (headS m s c).cost := if_neg (by rw [hb']; decide)
   have hl2 := hf.l
   have hSL : sureL m s c = if (headS m s c).cost = c.missed * s.length then [] else sureP m s c (behindS m s c) (aheadS m s c (behindS m s c)) (headS m s c).cost (behindS m s c).length (behindS m s c).length := if_neg (by rw [hb']; decide)
   have hN4 := allP_len hf.l.1 hf.l.2
   have hBk : BOk m s (allP m s).length (behindS m s c) := behB_ok hf.c (last_ok hf.c hf.l.2 (fun i hi => allP_in i hi)) _ (Nat.le_refl _)
   have hLl := hBk.1
   have hAb := aheadO_bound hf.c hf.l.2 hBk (behindS m s c).length (by omega)
   have hhc : 0 ≤ (headS m s c).cost ∧ (headS m s c).cost ≤ 64000 := (headB_ok hf.c hf.l.2 hBk (allP m s).length (Nat.le_refl _)).1
   have k1 := mul_small (b := (s.length : Int)) hf.c.1 (by have := hf.l.2; omega)
   have HSL := Lib.hid hSL
   have HAN := Lib.hid hAN
   have HB := Lib.hid hBk
   have HAB := Lib.hid hAb
   clear hSL hAN hBk hAb
   repeat first | refine lwp_seq fun K hK => ?_ | (with_reducible refine gA ?_; apply_assumption -exfalso -symm) | refine Stp.h ?_ | refine gF rfl ?_ | refine gG rfl ?_ | refine gM hC rfl ⟨⟩ ?_
   (refine lwp_region hC ⟨[], [], [(2, Aligned_i m s c [(0, some 0), (1, some 1)])]⟩ (told1 _ (by rw [hP]; exact (calls_cons (Aligned_s _ _ _ _ hm' hs) calls_nil))) rfl ?_ ?_; rotate_left 1)
   ·rw [HAN.out]
    obtain ⟨n, hn⟩ : ∃ n, (headS m s c).cost = n := ⟨_, rfl⟩
    have hsl := HSL.out
    rw [hn] at hhc hsl ⊢
    have HS2 := Lib.hid hsl
    clear hn hsl
    repeat first | refine lwp_seq fun K hK => ?_ | (with_reducible refine gA ?_; apply_assumption -exfalso -symm) | refine Stp.h ?_ | refine gF rfl ?_ | refine gG rfl ?_ | refine gM hC rfl sd ?_
    refine lwp_condS hC rfl sd ?_ ?_ <;> intro hb
    ·have h0 : sureL m s c = [] := by rw [HS2.out, if_pos hb]
     repeat first | refine lwp_seq fun K hK => ?_ | (with_reducible refine gA ?_; apply_assumption -exfalso -symm) | refine Stp.h ?_ | refine gF rfl ?_ | refine gG rfl ?_ | refine gM hC rfl sd ?_
     rw [h0]
     (refine end_intro (by first | exact .inr rfl | exact .inl rfl) [(2, none)] rfl ?_)
     rw [hb']
     exact sd
    ·have h0 : sureL m s c = sureP m s c (behindS m s c) (aheadS m s c (behindS m s c)) n (behindS m s c).length (behindS m s c).length := by rw [HS2.out, if_neg hb]
     have HS3 := Lib.hid h0
     clear h0 hb
     repeat first | refine lwp_seq fun K hK => ?_ | (with_reducible refine gA ?_; apply_assumption -exfalso -symm) | refine Stp.h ?_ | refine gF rfl ?_ | refine gG rfl ?_ | refine gM hC rfl ⟨⟩ ?_
     (refine lwp_region hC ⟨[], [], [(2, Behind_i m s c [(0, some 0), (1, some 1)])]⟩ (told1 _ (by rw [hP]; exact (calls_cons (Behind_s _ _ _ _ hf.c hf.l hf.pm hf.ps hf.km hf.ks) calls_nil))) rfl ?_ ?_; rotate_left 1)
     ·have h1 := HS3.out
      have h2 := HB.out
      have h3 := HAB.out
      rw [← hLl] at h2 hN4 ⊢
      have h4 : (aheadS m s c (behindS m s c)).length = (behindS m s c).length := aheadO_len m s c _ _
      change ∀ k, 0 ≤ (aheadS m s c (behindS m s c)).getD k 0 ∧ (aheadS m s c (behindS m s c)).getD k 0 ≤ 64000 at h3
      obtain ⟨L, hL⟩ : ∃ L, behindS m s c = L := ⟨_, rfl⟩
      rw [hL] at h1 h2 h3 h4 hN4 ⊢
      have HP := Lib.hid h1
      have HB2 := Lib.hid h2
      have HA2 := Lib.hid h3
      clear h1 h2 h3 hL hLl HSL HAN HB HAB HS2 HS3
      repeat first | refine lwp_seq fun K hK => ?_ | (with_reducible refine gA ?_; apply_assumption -exfalso -symm) | refine Stp.h ?_ | refine gF rfl ?_ | refine gG rfl ?_ | refine gM hC rfl sd ?_
      (refine lwp_region hC ⟨[], [], [(3, Ahead_i m s c L [(0, some 0), (1, some 1), (2, some 8)])]⟩ (told1 _ (by rw [hP]; exact (calls_cons (Ahead_s _ _ _ _ _ hf.c hl2 hf.pm hf.ps HB2.out hN4) calls_nil))) rfl ?_ ?_; rotate_left 1)
      ·have h1 := HP.out
       have h3 := HA2.out
       obtain ⟨A, hA⟩ : ∃ A, aheadS m s c L = A := ⟨_, rfl⟩
       rw [hA] at h1 h3 h4 ⊢
       have HP2 := Lib.hid h1
       have HA3 := Lib.hid h3
       clear h1 h3 hA HP HA2
       repeat first | refine lwp_seq fun K hK => ?_ | (with_reducible refine gA ?_; apply_assumption -exfalso -symm) | refine Stp.h ?_ | refine gF rfl ?_ | refine gG rfl ?_ | refine gM hC rfl sd ?_
       (refine lwp_drawn hC (by rw [hP]; exact mixed) ⟨[], [], []⟩ (told0 _ _) [0, 1, 3, 7, 0, 16, 48, 112, 0, 271, 1023] 10 rfl ?_ ?_; rotate_left 1)
       ·repeat first | refine lwp_seq fun K hK => ?_ | (with_reducible refine gA ?_; apply_assumption -exfalso -symm) | refine Stp.h ?_ | refine gF rfl ?_ | refine gG rfl ?_ | refine gM hC rfl sd ?_
        refine lwp_loop (fun i : Nat => ⟨[(64, i64 i), (63, i64 L.length), (62, .sl 5 L.length), (2, .ptr 2 0 0 0), (3, .ptr 3 0 0 0), (8, .ptr 4 0 0 0), (10, .ptr 6 0 0 0), (11, .ptr 8 0 0 0), (12, .sl 9 s.length), (13, .ptr 11 0 0 0), (14, .ptr 12 0 0 0)], [(0, .ro m.length 2 (thC m)), (1, .ro s.length 2 (thC s)), (2, .blk 38 [.sl 0 m.length, .sl 1 s.length]), (3, .blk 40 [i64 c.missed, i64 c.unseen, i64 c.stretch]), (4, .blk 3 [i64 n]), (5, .row 141 L.length 5 (stC L)), (6, .blk 138 [.sl 5 L.length]), (7, .row 3 L.length 1 (.ints .i64 A)), (8, .blk 45 [.sl 7 L.length]), (9, .row 3 s.length 1 (.ints .i64 (manyM s L A n i))), (10, .row 4 s.length 1 (.bools (leftB m s c L A n i))), (11, .blk 147 [.sl 10 s.length]), (12, .blk 148 [.fn 70 [] [.ptr 11 0 0 0]])], 13⟩) (fun i => i ≤ L.length) (fun i => L.length - i) 0 ⟨?_, sub_intro hm [(0, some 0), (1, some 1), (2, some 2), (3, some 3), (4, some 6), (5, some 8), (6, some 9), (7, some 11), (8, some 12), (9, some 14), (10, some 15), (11, some 16), (12, some 18)] rfl ?_⟩ ?_
        ·exact Nat.zero_le _
        ·exact sd
        ·rintro i hi
         have e1 : (i : Int).toNat = i := Int.toNat_natCast i
         repeat first | refine lwp_seq fun K hK => ?_ | (with_reducible refine gA ?_; apply_assumption -exfalso -symm) | refine Stp.h ?_ | refine gF rfl ?_ | refine gG rfl ?_ | refine gM hC rfl sd ?_
         refine lwp_condS hC rfl sd ?_ ?_ <;> intro hb
         ·have hil : i < L.length := by omega
          have hx : StOk m s L.length i (L.getD i stD) := HB2.out.2 i hil
          have hML := manyM_len s L A n i
          have hBL := leftB_len m s c L A n i
          have hMb := manyM_bound s L A n (L.getD i stD).p.1.toNat i
          have hai := HA3.out i
          have hMn : manyM s L A n (i + 1) = if onB L A n i = true then (manyM s L A n i).set (L.getD i stD).p.1.toNat ((manyM s L A n i).getD (L.getD i stD).p.1.toNat 0 + 1) else manyM s L A n i := rfl
          have hBn : leftB m s c L A n (i + 1) = if onB L A n i = true then innB m s c L A n i (endB s c L A n i (leftB m s c L A n i)) i else leftB m s c L A n i := rfl
          have hon : onB L A n i = decide (A.getD i 0 + (L.getD i stD).cost = n) := rfl
          have hen : ∀ B, endB s c L A n i B = (if A.getD i 0 + c.missed * (s.length - 1 - (L.getD i stD).p.1) = n then leaveB (if c.missed * (L.getD i stD).p.1 + (L.getD i stD).cost = n then leaveB B (-1) (L.getD i stD).p.1 else B) (L.getD i stD).p.1 s.length else (if c.missed * (L.getD i stD).p.1 + (L.getD i stD).cost = n then leaveB B (-1) (L.getD i stD).p.1 else B)) := fun B => rfl
          have hin : ∀ B k, innB m s c L A n i B (k + 1) = if befS (L.getD k stD) (L.getD i stD) = true ∧ A.getD k 0 + grownS m s c (L.getD k stD).p (L.getD i stD).p + (L.getD i stD).cost = n then leaveB (innB m s c L A n i B k) (L.getD k stD).p.1 (L.getD i stD).p.1 else innB m s c L A n i B k := fun B k => rfl
          obtain ⟨M, hMe⟩ : ∃ M, manyM s L A n i = M := ⟨_, rfl⟩
          obtain ⟨B, hBe⟩ : ∃ B, leftB m s c L A n i = B := ⟨_, rfl⟩
          rw [hMe] at hML hMb hMn ⊢
          rw [hBe] at hBL hBn ⊢
          have HMN := Lib.hid hMn
          have HBN := Lib.hid hBn
          have HON := Lib.hid hon
          have HEN := Lib.hid hen
          have HIN := Lib.hid hin
          clear hMn hBn hon hen hin hMe hBe
          repeat first | refine lwp_seq fun K hK => ?_ | (with_reducible refine gA ?_; apply_assumption -exfalso -symm) | refine Stp.h ?_ | refine gF rfl ?_ | refine gG rfl ?_ | refine gM hC rfl sd ?_
          simp only [e1]
          obtain ⟨x, hxe⟩ : ∃ x, L.getD i stD = x := ⟨_, rfl⟩
          rw [hxe] at hx hMb
          simp only [hxe]
          obtain ⟨hxi, ⟨x5, x6⟩, ⟨x7, x8⟩, x9⟩ := hx
          have hxi2 := hxi
          obtain ⟨⟨h1, h2⟩, h3, h5⟩ := hxi2
          have HXE := Lib.hid hxe
          clear hxe
          have k2 := mul_small (b := x.p.1) hf.c.1 (by omega)
          have k3 := mul_small (b := (s.length : Int) - 1 - x.p.1) hf.c.1 (by omega)
          (refine lwp_drawn hC (by rw [hP]; exact mixed) ⟨[], [], []⟩ (told0 _ _) [0, 0, 3, 7, 0, 16, 63, 0, 255] 8 rfl ?_ ?_; rotate_left 1)
          ·simp only [e1]
           repeat first | refine lwp_seq fun K hK => ?_ | (with_reducible refine gA ?_; apply_assumption -exfalso -symm) | refine Stp.h ?_ | refine gF rfl ?_ | refine gG rfl ?_ | refine gM hC rfl sd ?_
           refine lwp_condS hC rfl sd ?_ ?_ <;> intro hb
           ·have ho : onB L A n i = false := by rw [HON.out, HXE.out]; exact decide_eq_false hb
            have g1 : manyM s L A n (i + 1) = M := by rw [HMN.out, ho]; rfl
            have g2 : leftB m s c L A n (i + 1) = B := by rw [HBN.out, ho]; rfl
            repeat first | refine lwp_seq fun K hK => ?_ | (with_reducible refine gA ?_; apply_assumption -exfalso -symm) | refine Stp.h ?_ | refine gF rfl ?_ | refine gG rfl ?_ | refine gM hC rfl sd ?_
            refine gA ⟨i + 1, ?_, ?_, sub_intro hm [(0, some 0), (1, some 1), (2, some 2), (3, some 3), (4, some 4), (5, some 5), (6, some 6), (7, some 7), (8, some 8), (9, some 9), (10, some 10), (11, some 11), (12, some 12)] rfl ?_⟩
            ·omega
            ·omega
            ·rw [g1, g2]
             exact sd
           ·have ho : onB L A n i = true := by rw [HON.out, HXE.out]; exact decide_eq_true hb
            have g1 : manyM s L A n (i + 1) = M.set x.p.1.toNat (M.getD x.p.1.toNat 0 + 1) := by rw [HMN.out, if_pos ho, HXE.out]
            have g2 : leftB m s c L A n (i + 1) = innB m s c L A n i (endB s c L A n i B) i := by rw [HBN.out, if_pos ho]
            have hML2 : (M.set x.p.1.toNat (M.getD x.p.1.toNat 0 + 1)).length = s.length := by rw [List.length_set]; exact hML
            repeat first | refine lwp_seq fun K hK => ?_ | (with_reducible refine gA ?_; apply_assumption -exfalso -symm) | refine Stp.h ?_ | refine gF rfl ?_ | refine gG rfl ?_ | refine gM hC rfl sd ?_
            obtain ⟨M, hMe⟩ : ∃ M', M.set x.p.1.toNat (M.getD x.p.1.toNat 0 + 1) = M' := ⟨_, rfl⟩
            rw [hMe] at g1 hML2 ⊢
            have HG1 := Lib.hid g1
            have HG2 := Lib.hid g2
            clear g1 g2 hMe hML hMb HMN HBN HON
            (refine lwp_region hC ⟨[], [], [(6, Ends_i m s c x.p x.p [(0, some 0), (1, some 1)])]⟩ (told1 _ (by rw [hP]; exact (calls_cons (Ends_s _ _ _ _ _ _ hf.c hl2.2 hxi hxi) calls_nil))) rfl ?_ ?_; rotate_left 1)
            ·((with_reducible refine gA ?_); apply_assumption -exfalso -symm)
             obtain ⟨B1, hB1⟩ : ∃ B1, (if c.missed * x.p.1 + x.cost = n then leaveB B (-1) x.p.1 else B) = B1 := ⟨_, rfl⟩
             have hB1l : B1.length = s.length := by rw [← hB1]; split <;> simp [leaveB_len, hBL]
             refine lwp_cut (t := ⟨[(64, i64 i), (63, i64 L.length), (62, .sl 5 L.length), (15, i64 i), (16, .ptr 13 0 0 0), (17, .ptr 14 0 0 0), (2, .ptr 2 0 0 0), (3, .ptr 3 0 0 0), (8, .ptr 4 0 0 0), (10, .ptr 6 0 0 0), (11, .ptr 8 0 0 0), (12, .sl 9 s.length), (13, .ptr 11 0 0 0), (14, .ptr 12 0 0 0)], [(0, .ro m.length 2 (thC m)), (1, .ro s.length 2 (thC s)), (2, .blk 38 [.sl 0 m.length, .sl 1 s.length]), (3, .blk 40 [i64 c.missed, i64 c.unseen, i64 c.stretch]), (4, .blk 3 [i64 n]), (5, .row 141 L.length 5 (stC L)), (6, .blk 138 [.sl 5 L.length]), (7, .row 3 L.length 1 (.ints .i64 A)), (8, .blk 45 [.sl 7 L.length]), (9, .row 3 s.length 1 (.ints .i64 (M))), (10, .row 4 s.length 1 (.bools (B1))), (11, .blk 147 [.sl 10 s.length]), (12, .blk 148 [.fn 70 [] [.ptr 11 0 0 0]]), (13, .blk 141 [i64 x.p.1, i64 x.p.2, i64 x.cost, i64 x.many, i64 x.next]), (14, .blk 115 [i64 (c.missed * x.p.1), i64 (c.missed * (s.length - 1 - x.p.1))])], 15⟩) ?_ ?_
             ·repeat first | refine lwp_seq fun K hK => ?_ | (with_reducible refine gA ?_; apply_assumption -exfalso -symm) | refine Stp.h ?_ | refine gF rfl ?_ | refine gG rfl ?_ | refine gM hC rfl sd ?_
              refine lwp_condS hC rfl sd ?_ ?_ <;> intro hb
              ·repeat first | refine lwp_seq fun K hK => ?_ | (with_reducible refine gA ?_; apply_assumption -exfalso -symm) | refine Stp.h ?_ | refine gF rfl ?_ | refine gG rfl ?_ | refine gM hC rfl sd ?_
               (refine lwp_region hC ⟨[], [], [(4, Leave_i B (-1) x.p.1 [(0, some 10), (1, some 11)])]⟩ (told1 _ (by rw [hP]; exact (calls_cons (Leave_s _ _ _ _ (by omega) (by omega) (by omega)) calls_nil))) rfl ?_ ?_; rotate_left 1)
               ·refine gA (sub_intro hm [(0, some 0), (1, some 1), (2, some 2), (3, some 3), (4, some 4), (5, some 5), (6, some 6), (7, some 7), (8, some 8), (9, some 9), (10, some 10), (11, some 11), (12, some 12), (13, some 13), (14, some 16)] rfl ?_)
                rw [← hB1, if_pos hb]
                exact sd
               ·exact sd
              ·repeat first | refine lwp_seq fun K hK => ?_ | (with_reducible refine gA ?_; apply_assumption -exfalso -symm) | refine Stp.h ?_ | refine gF rfl ?_ | refine gG rfl ?_ | refine gM hC rfl sd ?_
               refine gA (sub_intro hm [(0, some 0), (1, some 1), (2, some 2), (3, some 3), (4, some 4), (5, some 5), (6, some 6), (7, some 7), (8, some 8), (9, some 9), (10, some 10), (11, some 11), (12, some 12), (13, some 13), (14, some 16)] rfl ?_)
               rw [← hB1, if_neg hb]
               exact sd
             ·obtain ⟨B2, hB2⟩ : ∃ B2, (if A.getD i 0 + c.missed * (s.length - 1 - x.p.1) = n then leaveB B1 x.p.1 s.length else B1) = B2 := ⟨_, rfl⟩
              have hB2l : B2.length = s.length := by rw [← hB2]; split <;> simp [leaveB_len, hB1l]
              have hend : endB s c L A n i B = B2 := by rw [HEN.out, HXE.out, hB1, hB2]
              have HG3 := Lib.hid (HG2.out.trans (by rw [hend]))
              clear HG2 HEN hend hB1 hBL
              refine lwp_cut (t := ⟨[(64, i64 i), (63, i64 L.length), (62, .sl 5 L.length), (15, i64 i), (16, .ptr 13 0 0 0), (17, .ptr 14 0 0 0), (2, .ptr 2 0 0 0), (3, .ptr 3 0 0 0), (8, .ptr 4 0 0 0), (10, .ptr 6 0 0 0), (11, .ptr 8 0 0 0), (12, .sl 9 s.length), (13, .ptr 11 0 0 0), (14, .ptr 12 0 0 0)], [(0, .ro m.length 2 (thC m)), (1, .ro s.length 2 (thC s)), (2, .blk 38 [.sl 0 m.length, .sl 1 s.length]), (3, .blk 40 [i64 c.missed, i64 c.unseen, i64 c.stretch]), (4, .blk 3 [i64 n]), (5, .row 141 L.length 5 (stC L)), (6, .blk 138 [.sl 5 L.length]), (7, .row 3 L.length 1 (.ints .i64 A)), (8, .blk 45 [.sl 7 L.length]), (9, .row 3 s.length 1 (.ints .i64 (M))), (10, .row 4 s.length 1 (.bools (B2))), (11, .blk 147 [.sl 10 s.length]), (12, .blk 148 [.fn 70 [] [.ptr 11 0 0 0]]), (13, .blk 141 [i64 x.p.1, i64 x.p.2, i64 x.cost, i64 x.many, i64 x.next]), (14, .blk 115 [i64 (c.missed * x.p.1), i64 (c.missed * (s.length - 1 - x.p.1))])], 15⟩) ?_ ?_
              ·repeat first | refine lwp_seq fun K hK => ?_ | (with_reducible refine gA ?_; apply_assumption -exfalso -symm) | refine Stp.h ?_ | refine gF rfl ?_ | refine gG rfl ?_ | refine gM hC rfl ⟨⟩ ?_
               (refine lwp_drawn hC (by rw [hP]; exact mixed) ⟨[], [], []⟩ (told0 _ _) [0, 0, 3, 7, 0, 16, 63, 0, 255] 8 rfl ?_ ?_; rotate_left 1)
               ·simp only [e1]
                repeat first | refine lwp_seq fun K hK => ?_ | (with_reducible refine gA ?_; apply_assumption -exfalso -symm) | refine Stp.h ?_ | refine gF rfl ?_ | refine gG rfl ?_ | refine gM hC rfl sd ?_
                refine lwp_condS hC rfl sd ?_ ?_ <;> intro hb
                ·repeat first | refine lwp_seq fun K hK => ?_ | (with_reducible refine gA ?_; apply_assumption -exfalso -symm) | refine Stp.h ?_ | refine gF rfl ?_ | refine gG rfl ?_ | refine gM hC rfl sd ?_
                 (refine lwp_region hC ⟨[], [], [(7, Leave_i B1 x.p.1 s.length [(0, some 10), (1, some 11)])]⟩ (told1 _ (by rw [hP]; exact (calls_cons (Leave_s _ _ _ _ (by omega) (by omega) (by omega)) calls_nil))) rfl ?_ ?_; rotate_left 1)
                 ·refine gA (sub_intro hm [(0, some 0), (1, some 1), (2, some 2), (3, some 3), (4, some 4), (5, some 5), (6, some 6), (7, some 7), (8, some 8), (9, some 9), (10, some 10), (11, some 11), (12, some 12), (13, some 13), (14, some 14)] rfl ?_)
                  rw [← hB2, if_pos hb]
                  exact sd
                 ·exact sd
                ·repeat first | refine lwp_seq fun K hK => ?_ | (with_reducible refine gA ?_; apply_assumption -exfalso -symm) | refine Stp.h ?_ | refine gF rfl ?_ | refine gG rfl ?_ | refine gM hC rfl sd ?_
                 refine gA (sub_intro hm [(0, some 0), (1, some 1), (2, some 2), (3, some 3), (4, some 4), (5, some 5), (6, some 6), (7, some 7), (8, some 8), (9, some 9), (10, some 10), (11, some 11), (12, some 12), (13, some 13), (14, some 14)] rfl ?_)
                 rw [← hB2, if_neg hb]
                 exact sd
               ·simp only [e1]
                exact sd
              ·have hl3 : ∀ k, (innB m s c L A n i B2 k).length = s.length := fun k => (innB_len m s c L A n i B2 k).trans hB2l
               have hinn : ∀ k, innB m s c L A n i B2 (k + 1) = if befS (L.getD k stD) x = true ∧ A.getD k 0 + grownS m s c (L.getD k stD).p x.p + x.cost = n then leaveB (innB m s c L A n i B2 k) (L.getD k stD).p.1 x.p.1 else innB m s c L A n i B2 k := fun k => by rw [HIN.out, HXE.out]
               have hi0 : innB m s c L A n i B2 0 = B2 := rfl
               obtain ⟨I, hI⟩ : ∃ I, innB m s c L A n i B2 = I := ⟨_, rfl⟩
               have hg3 := HG3.out
               rw [hI] at hl3 hinn hi0 hg3
               have HL3 := Lib.hid hl3
               have HINN := Lib.hid hinn
               have HG4 := Lib.hid hg3
               rw [← hi0]
               clear hl3 hinn hg3 hi0 hI HG3 HIN hB2 hB1l hB2l
               repeat first | refine lwp_seq fun K hK => ?_ | (with_reducible refine gA ?_; apply_assumption -exfalso -symm) | refine Stp.h ?_ | refine gF rfl ?_ | refine gG rfl ?_ | refine gM hC rfl ⟨⟩ ?_
               (refine lwp_region hC ⟨[], [], [(2, Before_i L i [(0, some 5)])]⟩ (told1 _ (by rw [hP]; exact (calls_cons (Before_s _ _ _) calls_nil))) rfl ?_ ?_; rotate_left 1)
               ·repeat first | refine lwp_seq fun K hK => ?_ | (with_reducible refine gA ?_; apply_assumption -exfalso -symm) | refine Stp.h ?_ | refine gF rfl ?_ | refine gG rfl ?_
                refine lwp_sub (t := ⟨suT i L.length s.length, suH m s c n L A M (I 0) i x, 17⟩) (sub_intro hm [(0, some 0), (1, some 1), (2, some 2), (3, some 3), (4, some 4), (5, some 5), (6, some 6), (7, some 7), (8, some 8), (9, some 9), (10, some 10), (11, some 11), (12, some 12), (13, some 13), (14, some 14), (15, some 15), (16, some 16)] rfl ?_) ?_
                ·exact sd
                ·(have hCo := hC; have hmo := hm; have hPo := hP; have hrdo := hrd; refine lwp_rangeG fun AS BD hAS hBD => ?_; refine lwp_range hC hrd (f := 130) rfl ⟨⟩ (by rw [hP]; exact Tryz.func130) rfl rfl rfl rfl rfl fun F1 hP1 hm1 hC1 hrd1 => ?_; have hP := hP1.trans hP; have hm := hm1; have hC := hC1; have hrd := hrd1; clear hP1 hm1 hC1 hrd1; dsimp only at hC; conv => whnf)
                 repeat first | refine lwp_seq fun K hK => ?_ | (with_reducible refine gA ?_; apply_assumption -exfalso -symm) | refine Stp.h ?_ | refine gF rfl ?_ | refine gG rfl ?_ | refine gM hC rfl sd ?_
                 refine lwp_loop (fun k : Nat => ⟨[(0, .yld 17), (1, .ptr 16 0 0 0), (2, .ptr 15 0 0 0), (5, i64 i), (6, i64 k)], (17, .obj (.rcd (suT i L.length s.length) 199 #[125] AS BD .ready)) :: suH m s c n L A M (I k) i x, 18⟩) (fun k => k ≤ i) (fun k => i - k) 0 ⟨?_, sub_intro hm [(0, some 0), (1, some 1), (2, some 2), (3, some 3), (4, some 4), (5, some 5), (6, some 6), (7, some 7), (8, some 8), (9, some 9), (10, some 10), (11, some 11), (12, some 12), (13, some 13), (14, some 14), (15, some 15), (16, some 16), (17, some 17)] rfl ?_⟩ ?_
                 ·exact Nat.zero_le _
                 ·exact sd
                 ·rintro k hk
                  have e2 : (k : Int).toNat = k := Int.toNat_natCast k
                  repeat first | refine lwp_seq fun K hK => ?_ | (with_reducible refine gA ?_; apply_assumption -exfalso -symm) | refine Stp.h ?_ | refine gF rfl ?_ | refine gG rfl ?_ | refine gM hC rfl sd ?_
                  refine lwp_condS hC rfl sd ?_ ?_ <;> intro hb
                  ·have hki : k < i := by omega
                   repeat first | refine lwp_seq fun K hK => ?_ | (with_reducible refine gA ?_; apply_assumption -exfalso -symm) | refine Stp.h ?_ | refine gF rfl ?_ | refine gG rfl ?_ | refine gM hC rfl sd ?_
                   by_cases p1 : (L.getD k stD).p.1 < (L.getD i stD).p.1
                   ·by_cases p2 : (L.getD k stD).p.2 < (L.getD i stD).p.2
                    ·(refine lwp_drawn_pre hC (by rw [hP]; exact mixed) ⟨[(12, { b := some true }), (27, { b := some true })], [], []⟩ (told0 _ _) [0, 0, 3, 7, 15, 31, 0, 0, 192, 448, 960, 1984, 4095, 8191, 16383, 16383, 65535, 131071, 262143, 524287, 16383, 16383, 3162111, 7356415, 15745023, 32522239, 67108863, 134217727, 268435455, 536870911, 536870911, 2147483647, 4294967295, 8589934591] 31 rfl ?_ ?_; rotate_left 1)
                     ·(refine lops_yield hC (j := 31) (idx := [32, 33]) rfl (fun _ _ h => by cases h; rfl) rfl (by exact sd) fun F2 hP2 hm2 hC2 => ?_; have hP1o := hP; have hm1o := hm; have hC1o := hC; have hrd1o := hrd; have hP := hP2.trans hP; have hm := hm2; have hC := hC2; clear hP2 hm2 hC2; dsimp only at hC hm; subst hAS hBD; dsimp only)
                      have hky : StOk m s L.length k (L.getD k stD) := HB2.out.2 k (by omega)
                      have hbf : befS (L.getD k stD) x = true := befS_iff.2 (by rw [← HXE.out]; exact ⟨p1, p2⟩)
                      have hst := HINN.out k
                      have hIl := HL3.out k
                      have hak := HA3.out k
                      obtain ⟨y, hye⟩ : ∃ y, L.getD k stD = y := ⟨_, rfl⟩
                      rw [hye] at hky hst hbf
                      obtain ⟨yi, _, _, _⟩ := hky
                      have hyy := yi
                      obtain ⟨⟨y1, y2⟩, y3, y4⟩ := hyy
                      have hgs := grownS_small hf.c hl2 hf.pm hf.ps yi hxi
                      obtain ⟨J, hJ⟩ : ∃ J, I k = J := ⟨_, rfl⟩
                      rw [hJ] at hst hIl ⊢
                      have HF := Lib.hid hst
                      have HJ := Lib.hid hJ
                      clear hst p1 p2 hJ
                      repeat first | refine lwp_seq fun K hK => ?_ | (with_reducible refine gA ?_; apply_assumption -exfalso -symm) | refine Stp.h ?_ | refine gF rfl ?_ | refine gG rfl ?_ | refine gM hC rfl sd ?_
                      (refine ⟨rfl, ?_⟩; (conv => whnf))
                      repeat first | refine lwp_seq fun K hK => ?_ | (with_reducible refine gA ?_; apply_assumption -exfalso -symm) | refine Stp.h ?_ | refine gF rfl ?_ | refine gG rfl ?_ | refine gM hC rfl sd ?_
                      (refine lwp_drawn2 hC (by rw [hP]; exact mixed) ⟨[], [], [(13, Grown_i m s c y.p x.p [(0, some 0), (1, some 1)])]⟩ (told1 _ (by rw [hP]; exact (calls_cons (Grown_s _ _ _ _ _ _ hf.c hl2 hf.pm hf.ps yi hxi) calls_nil))) [0, 0, 3, 7, 0, 0, 0, 0, 192, 448, 960, 0, 2048, 8176, 16383, 0, 32768, 131071, 0, 524287] 20 0 rfl ?_ ?_; rotate_left 1)
                      ·simp only [e2, hye]
                       repeat first | refine lwp_seq fun K hK => ?_ | (with_reducible refine gA ?_; apply_assumption -exfalso -symm) | refine Stp.h ?_ | refine gF rfl ?_ | refine gG rfl ?_ | refine gM hC rfl sd ?_
                       refine lwp_condS hC rfl sd ?_ ?_ <;> intro hb
                       ·have hst : I (k + 1) = leaveB J y.p.1 x.p.1 := by rw [HF.out, if_pos ⟨hbf, hb⟩]
                        repeat first | refine lwp_seq fun K hK => ?_ | (with_reducible refine gA ?_; apply_assumption -exfalso -symm) | refine Stp.h ?_ | refine gF rfl ?_ | refine gG rfl ?_ | refine gM hC rfl sd ?_
                        (refine lwp_drawn hC (by rw [hP]; exact mixed) ⟨[], [], [(10, Leave_i J y.p.1 x.p.1 [(0, some 10), (1, some 11)])]⟩ (told1 _ (by rw [hP]; exact (calls_cons (Leave_s _ _ _ _ (by omega) (by omega) (by omega)) calls_nil))) [0, 0, 0, 6, 14, 30, 62, 0, 128, 384, 1023] 10 rfl ?_ ?_; rotate_left 1)
                        ·repeat first | refine lwp_seq fun K hK => ?_ | (with_reducible refine gA ?_; apply_assumption -exfalso -symm) | refine Stp.h ?_ | refine gF rfl ?_ | refine gG rfl ?_ | refine gM hC rfl sd ?_
                         ((conv => whnf); refine ⟨_, rfl, ?_⟩; have hP := hP1o; have hm := hm1o; have hC := hC1o; have hrd := hrd1o; refine lops_tail hC (told0 _ []) (i := 32) (by decide) rfl ?_ ?_; rotate_left 1)
                         ·repeat first | refine lwp_seq fun K hK => ?_ | (with_reducible refine gA ?_; apply_assumption -exfalso -symm) | refine Stp.h ?_ | refine gF rfl ?_ | refine gG rfl ?_ | refine gM hC rfl sd ?_
                          refine lwp_condS hC rfl sd ?_ ?_ <;> intro hb
                          ·simp at hb
                          ·repeat first | refine lwp_seq fun K hK => ?_ | (with_reducible refine gA ?_; apply_assumption -exfalso -symm) | refine Stp.h ?_ | refine gF rfl ?_ | refine gG rfl ?_ | refine gM hC rfl sd ?_
                           refine gA ⟨k + 1, ?_, ?_, sub_intro hm [(0, some 0), (1, some 1), (2, some 2), (3, some 3), (4, some 4), (5, some 5), (6, some 6), (7, some 7), (8, some 8), (9, some 9), (10, some 10), (11, some 11), (12, some 12), (13, some 13), (14, some 14), (15, some 15), (16, some 16), (17, some 17)] rfl ?_⟩
                           ·omega
                           ·omega
                           ·rw [hst]
                            exact sd
                         ·exact sd
                        ·simp only [e2, hye]
                         exact sd
                       ·have hst : I (k + 1) = J := by rw [HF.out, if_neg fun h => hb h.2]
                        repeat first | refine lwp_seq fun K hK => ?_ | (with_reducible refine gA ?_; apply_assumption -exfalso -symm) | refine Stp.h ?_ | refine gF rfl ?_ | refine gG rfl ?_ | refine gM hC rfl sd ?_
                        ((conv => whnf); refine ⟨_, rfl, ?_⟩; have hP := hP1o; have hm := hm1o; have hC := hC1o; have hrd := hrd1o; refine lops_tail hC (told0 _ []) (i := 32) (by decide) rfl ?_ ?_; rotate_left 1)
                        ·repeat first | refine lwp_seq fun K hK => ?_ | (with_reducible refine gA ?_; apply_assumption -exfalso -symm) | refine Stp.h ?_ | refine gF rfl ?_ | refine gG rfl ?_ | refine gM hC rfl sd ?_
                         refine lwp_condS hC rfl sd ?_ ?_ <;> intro hb
                         ·simp at hb
                         ·repeat first | refine lwp_seq fun K hK => ?_ | (with_reducible refine gA ?_; apply_assumption -exfalso -symm) | refine Stp.h ?_ | refine gF rfl ?_ | refine gG rfl ?_ | refine gM hC rfl sd ?_
                          refine gA ⟨k + 1, ?_, ?_, sub_intro hm [(0, some 0), (1, some 1), (2, some 2), (3, some 3), (4, some 4), (5, some 5), (6, some 6), (7, some 7), (8, some 8), (9, some 9), (10, some 10), (11, some 11), (12, some 12), (13, some 13), (14, some 14), (15, some 15), (16, some 16), (17, some 17)] rfl ?_⟩
                          ·omega
                          ·omega
                          ·rw [hst]
                           exact sd
                        ·exact sd
                      ·simp only [e2, hye]
                       exact sd
                     ·simp only [e1, e2]
                      exact sd
                    ·(refine lwp_drawn_pre hC (by rw [hP]; exact mixed) ⟨[(12, { b := some true }), (27, { b := some false })], [], []⟩ (told0 _ _) [0, 0, 3, 7, 15, 31, 0, 0, 192, 448, 960, 1984, 4095, 8191, 16383, 16383, 65535, 131071, 262143, 524287, 16383, 16383, 3162111, 7356415, 15745023, 32522239, 67108863, 134217727, 268435455, 536870911, 536870911, 2147483647, 4294967295, 8589934591] 31 rfl ?_ ?_; rotate_left 1)
                     ·refine lops_tail hC (told0 _ [(31, { g := some false }), (32, { g := some false })]) (i := 31) (by decide) rfl ?_ ?_
                      ·exact sd
                      ·have hst : I (k + 1) = I k := by rw [HINN.out k, if_neg (fun h => p2 (by rw [HXE.out]; exact (befS_iff.1 h.1).2))]
                       repeat first | refine lwp_seq fun K hK => ?_ | (with_reducible refine gA ?_; apply_assumption -exfalso -symm) | refine Stp.h ?_ | refine gF rfl ?_ | refine gG rfl ?_ | refine gM hC rfl sd ?_
                       refine lwp_condS hC rfl sd ?_ ?_ <;> intro hb
                       ·simp at hb
                       ·repeat first | refine lwp_seq fun K hK => ?_ | (with_reducible refine gA ?_; apply_assumption -exfalso -symm) | refine Stp.h ?_ | refine gF rfl ?_ | refine gG rfl ?_ | refine gM hC rfl sd ?_
                        refine gA ⟨k + 1, ?_, ?_, sub_intro hm [(0, some 0), (1, some 1), (2, some 2), (3, some 3), (4, some 4), (5, some 5), (6, some 6), (7, some 7), (8, some 8), (9, some 9), (10, some 10), (11, some 11), (12, some 12), (13, some 13), (14, some 14), (15, some 15), (16, some 16), (17, some 17)] rfl ?_⟩
                        ·omega
                        ·omega
                        ·rw [hst]
                         exact sd
                     ·simp only [e1, e2]
                      exact sd
                   ·(refine lwp_drawn_pre hC (by rw [hP]; exact mixed) ⟨[(12, { b := some false }), (13, { b := some false }), (14, { g := some false }), (15, { g := some false }), (16, { g := some false }), (17, { g := some false }), (18, { g := some false }), (19, { g := some false }), (20, { g := some false }), (21, { g := some false }), (22, { g := some false }), (23, { g := some false }), (24, { g := some false }), (25, { g := some false }), (26, { g := some false }), (27, { b := some false })], [], []⟩ (told0 _ _) [0, 0, 3, 7, 15, 31, 0, 0, 192, 448, 960, 1984, 4095, 8191, 16383, 16383, 65535, 131071, 262143, 524287, 16383, 16383, 3162111, 7356415, 15745023, 32522239, 67108863, 134217727, 268435455, 536870911, 536870911, 2147483647, 4294967295, 8589934591] 31 rfl ?_ ?_; rotate_left 1)
                    ·refine lops_tail hC (told0 _ [(31, { g := some false }), (32, { g := some false })]) (i := 31) (by decide) rfl ?_ ?_
                     ·exact sd
                     ·have hst : I (k + 1) = I k := by rw [HINN.out k, if_neg (fun h => p1 (by rw [HXE.out]; exact (befS_iff.1 h.1).1))]
                      repeat first | refine lwp_seq fun K hK => ?_ | (with_reducible refine gA ?_; apply_assumption -exfalso -symm) | refine Stp.h ?_ | refine gF rfl ?_ | refine gG rfl ?_ | refine gM hC rfl sd ?_
                      refine lwp_condS hC rfl sd ?_ ?_ <;> intro hb
                      ·simp at hb
                      ·repeat first | refine lwp_seq fun K hK => ?_ | (with_reducible refine gA ?_; apply_assumption -exfalso -symm) | refine Stp.h ?_ | refine gF rfl ?_ | refine gG rfl ?_ | refine gM hC rfl sd ?_
                       refine gA ⟨k + 1, ?_, ?_, sub_intro hm [(0, some 0), (1, some 1), (2, some 2), (3, some 3), (4, some 4), (5, some 5), (6, some 6), (7, some 7), (8, some 8), (9, some 9), (10, some 10), (11, some 11), (12, some 12), (13, some 13), (14, some 14), (15, some 15), (16, some 16), (17, some 17)] rfl ?_⟩
                       ·omega
                       ·omega
                       ·rw [hst]
                        exact sd
                    ·simp only [e1, e2]
                     exact sd
                  ·obtain rfl : k = i := by omega
                   repeat first | refine lwp_seq fun K hK => ?_ | (with_reducible refine gA ?_; apply_assumption -exfalso -symm) | refine Stp.h ?_ | refine gF rfl ?_ | refine gG rfl ?_ | refine gM hC rfl sd ?_
                   (refine ⟨by first | exact .inl rfl | exact .inr rfl, ?_⟩; (conv => whnf); have hP := hPo; have hm := hmo; have hC := hCo; have hrd := hrdo; (try (apply_assumption -exfalso -symm)))
                   repeat first | refine lwp_seq fun K hK => ?_ | (with_reducible refine gA ?_; apply_assumption -exfalso -symm) | refine Stp.h ?_ | refine gF rfl ?_ | refine gG rfl ?_ | refine gM hC rfl sd ?_
                   refine gA ⟨k + 1, ?_, ?_, sub_intro hm [(0, some 0), (1, some 1), (2, some 2), (3, some 3), (4, some 4), (5, some 5), (6, some 6), (7, some 7), (8, some 8), (9, some 9), (10, some 10), (11, some 11), (12, some 12)] rfl ?_⟩
                   ·omega
                   ·omega
                   ·rw [HG1.out, HG4.out]
                    exact sd
               ·exact sd
            ·exact sd
          ·simp only [e1]
           exact sd
         ·obtain rfl : i = L.length := by omega
          have hML := manyM_len s L A n L.length
          have hBL := leftB_len m s c L A n L.length
          have hsn : ∀ j, sureP m s c L A n L.length (j + 1) = if sureB m s c L A n L.length j = true then sureP m s c L A n L.length j ++ [(L.getD j stD).p] else sureP m s c L A n L.length j := fun j => rfl
          have hsb : ∀ j, sureB m s c L A n L.length j = bif decide (A.getD j 0 + (L.getD j stD).cost = n) then (bif decide ((manyM s L A n L.length).getD (L.getD j stD).p.1.toNat 0 = 1) then !((leftB m s c L A n L.length).getD (L.getD j stD).p.1.toNat false) else false) else false := fun j => rfl
          have hsl : ∀ j, (sureP m s c L A n L.length j).length ≤ j := fun j => by
           induction j with
           | zero => exact Nat.le_refl _
           | succ j ih =>
            rw [hsn]
            split
            ·simp; omega
            ·omega
          have hs0 : sureP m s c L A n L.length 0 = [] := rfl
          have hp2 := HP2.out
          obtain ⟨M, hMe⟩ : ∃ M, manyM s L A n L.length = M := ⟨_, rfl⟩
          obtain ⟨B, hBe⟩ : ∃ B, leftB m s c L A n L.length = B := ⟨_, rfl⟩
          rw [hMe] at hML hsb ⊢
          rw [hBe] at hBL hsb ⊢
          obtain ⟨P, hP'⟩ : ∃ P, sureP m s c L A n L.length = P := ⟨_, rfl⟩
          rw [hP'] at hsn hsl hs0 hp2
          have HSN := Lib.hid hsn
          have HSB := Lib.hid hsb
          have HSZ := Lib.hid hsl
          have HPP := Lib.hid hp2
          clear hsn hsb hsl hp2 hMe hBe hP' HP2
          repeat first | refine lwp_seq fun K hK => ?_ | (with_reducible refine gA ?_; apply_assumption -exfalso -symm) | refine Stp.h ?_ | refine gF rfl ?_ | refine gG rfl ?_ | refine gM hC rfl sd ?_
          refine lwp_loop (fun j : Nat => ⟨[(160, i64 j), (159, i64 L.length), (158, .sl 5 L.length), (19, .sl 13 (P j).length), (11, .ptr 8 0 0 0), (8, .ptr 4 0 0 0), (12, .sl 9 s.length), (13, .ptr 11 0 0 0)], [(0, .ro m.length 2 (thC m)), (1, .ro s.length 2 (thC s)), (2, .blk 38 [.sl 0 m.length, .sl 1 s.length]), (3, .blk 40 [i64 c.missed, i64 c.unseen, i64 c.stretch]), (4, .blk 3 [i64 n]), (5, .row 141 L.length 5 (stC L)), (6, .blk 138 [.sl 5 L.length]), (7, .row 3 L.length 1 (.ints .i64 A)), (8, .blk 45 [.sl 7 L.length]), (9, .row 3 s.length 1 (.ints .i64 (M))), (10, .row 4 s.length 1 (.bools (B))), (11, .blk 147 [.sl 10 s.length]), (12, .blk 148 [.fn 70 [] [.ptr 11 0 0 0]]), (13, .row 75 (P j).length 2 (prC (P j)))], 14⟩) (fun j => j ≤ L.length) (fun j => L.length - j) 0 ⟨?_, sub_intro hm [(0, some 0), (1, some 1), (2, some 2), (3, some 3), (4, some 4), (5, some 5), (6, some 6), (7, some 7), (8, some 8), (9, some 9), (10, some 10), (11, some 11), (12, some 12), (13, none)] rfl ?_⟩ ?_
          ·exact Nat.zero_le _
          ·rw [hs0]
           exact sd
          ·rintro j hj
           have e3 : (j : Int).toNat = j := Int.toNat_natCast j
           repeat first | refine lwp_seq fun K hK => ?_ | (with_reducible refine gA ?_; apply_assumption -exfalso -symm) | refine Stp.h ?_ | refine gF rfl ?_ | refine gG rfl ?_ | refine gM hC rfl sd ?_
           refine lwp_condS hC rfl sd ?_ ?_ <;> intro hb
           ·have hjl : j < L.length := by omega
            have hx : StOk m s L.length j (L.getD j stD) := HB2.out.2 j hjl
            have hsj := HSN.out j
            have hbj := HSB.out j
            have hzj := HSZ.out j
            have haj := HA3.out j
            repeat first | refine lwp_seq fun K hK => ?_ | (with_reducible refine gA ?_; apply_assumption -exfalso -symm) | refine Stp.h ?_ | refine gF rfl ?_ | refine gG rfl ?_ | refine gM hC rfl sd ?_
            simp only [e3]
            obtain ⟨x, hxe⟩ : ∃ x, L.getD j stD = x := ⟨_, rfl⟩
            rw [hxe] at hx hsj hbj
            simp only [hxe]
            obtain ⟨⟨⟨h1, h2⟩, h3, h5⟩, ⟨x5, x6⟩, _, _⟩ := hx
            have HSJ := Lib.hid hsj
            clear hsj
            by_cases q1 : A.getD j 0 + x.cost = n
            ·rw [decide_eq_true q1, cond_true] at hbj
             by_cases q2 : M.getD x.p.1.toNat 0 = 1
             ·rw [decide_eq_true q2, cond_true] at hbj
              (refine lwp_drawn2 hC (by rw [hP]; exact mixed) ⟨[(9, { b := some true }), (17, { b := some true }), (18, { b := some true })], [], []⟩ (told0 _ _) [0, 0, 3, 7, 0, 16, 63, 0, 255, 511, 1023, 1023, 3071, 7167, 16383, 32767, 65535, 131071, 262143, 524287, 524287, 1572863, 3670015, 8388607, 16777215, 33554431, 67108863] 27 0 rfl ?_ ?_; rotate_left 1)
              ·simp only [e3]
               repeat first | refine lwp_seq fun K hK => ?_ | (with_reducible refine gA ?_; apply_assumption -exfalso -symm) | refine Stp.h ?_ | refine gF rfl ?_ | refine gG rfl ?_ | refine gM hC rfl sd ?_
               refine lwp_condS hC rfl sd ?_ ?_ <;> intro hb
               ·have hq : B.getD x.p.1.toNat false = false := by simpa using hb
                have g : P (j + 1) = P j ++ [x.p] := by rw [HSJ.out, hbj, hq]; rfl
                repeat first | refine lwp_seq fun K hK => ?_ | (with_reducible refine gA ?_; apply_assumption -exfalso -symm) | refine Stp.h ?_ | refine gF rfl ?_ | refine gG rfl ?_ | refine gM hC rfl sd ?_
                refine gA ⟨j + 1, ?_, ?_, sub_intro hm [(0, some 0), (1, some 1), (2, some 2), (3, some 3), (4, some 4), (5, some 5), (6, some 6), (7, some 7), (8, some 8), (9, some 9), (10, some 10), (11, some 11), (12, some 12), (13, some 17)] rfl ?_⟩
                ·omega
                ·omega
                ·have e := prC_snoc (P j) x.p
                 rw [← g] at e
                 have e2 : (prC (P (j + 1))).cells = (catC (prC (P j)) (Cont.exp [.lit (.int .i64 x.p.1), .lit (.int .i64 x.p.2)])).cells := by
                  rw [catC_cells, e]; rfl
                 have e4 : (P (j + 1)).length = (P j).length + 1 := by rw [g]; simp
                 rw [e4]
                 exact sd
               ·have hq : B.getD x.p.1.toNat false = true := by simpa using hb
                have g : P (j + 1) = P j := by rw [HSJ.out, hbj, hq]; rfl
                repeat first | refine lwp_seq fun K hK => ?_ | (with_reducible refine gA ?_; apply_assumption -exfalso -symm) | refine Stp.h ?_ | refine gF rfl ?_ | refine gG rfl ?_ | refine gM hC rfl sd ?_
                refine gA ⟨j + 1, ?_, ?_, sub_intro hm [(0, some 0), (1, some 1), (2, some 2), (3, some 3), (4, some 4), (5, some 5), (6, some 6), (7, some 7), (8, some 8), (9, some 9), (10, some 10), (11, some 11), (12, some 12), (13, some 13)] rfl ?_⟩
                ·omega
                ·omega
                ·rw [g]
                 exact sd
              ·simp only [e3]
               exact sd
             ·rw [decide_eq_false q2, cond_false] at hbj
              have g : P (j + 1) = P j := by rw [HSJ.out, hbj]; rfl
              (refine lwp_drawn2 hC (by rw [hP]; exact mixed) ⟨[(9, { b := some true }), (17, { b := some false }), (18, { b := some false }), (19, { g := some false }), (20, { g := some false }), (21, { g := some false }), (22, { g := some false }), (23, { g := some false }), (24, { g := some false }), (25, { g := some false })], [], []⟩ (told0 _ _) [0, 0, 3, 7, 0, 16, 63, 0, 255, 511, 1023, 1023, 3071, 7167, 16383, 32767, 65535, 131071, 262143, 524287, 524287, 1572863, 3670015, 8388607, 16777215, 33554431, 67108863] 27 0 rfl ?_ ?_; rotate_left 1)
              ·repeat first | refine lwp_seq fun K hK => ?_ | (with_reducible refine gA ?_; apply_assumption -exfalso -symm) | refine Stp.h ?_ | refine gF rfl ?_ | refine gG rfl ?_ | refine gM hC rfl sd ?_
               refine lwp_condS hC rfl sd ?_ ?_ <;> intro hb
               ·simp at hb
               ·repeat first | refine lwp_seq fun K hK => ?_ | (with_reducible refine gA ?_; apply_assumption -exfalso -symm) | refine Stp.h ?_ | refine gF rfl ?_ | refine gG rfl ?_ | refine gM hC rfl sd ?_
                refine gA ⟨j + 1, ?_, ?_, sub_intro hm [(0, some 0), (1, some 1), (2, some 2), (3, some 3), (4, some 4), (5, some 5), (6, some 6), (7, some 7), (8, some 8), (9, some 9), (10, some 10), (11, some 11), (12, some 12), (13, some 13)] rfl ?_⟩
                ·omega
                ·omega
                ·rw [g]
                 exact sd
              ·simp only [e3]
               exact sd
            ·rw [decide_eq_false q1, cond_false] at hbj
             have g : P (j + 1) = P j := by rw [HSJ.out, hbj]; rfl
             (refine lwp_drawn2 hC (by rw [hP]; exact mixed) ⟨[(9, { b := some false }), (10, { g := some false }), (11, { g := some false }), (12, { g := some false }), (13, { g := some false }), (14, { g := some false }), (15, { g := some false }), (16, { g := some false }), (17, { b := some false }), (18, { b := some false }), (19, { g := some false }), (20, { g := some false }), (21, { g := some false }), (22, { g := some false }), (23, { g := some false }), (24, { g := some false }), (25, { g := some false })], [], []⟩ (told0 _ _) [0, 0, 3, 7, 0, 16, 63, 0, 255, 511, 1023, 1023, 3071, 7167, 16383, 32767, 65535, 131071, 262143, 524287, 524287, 1572863, 3670015, 8388607, 16777215, 33554431, 67108863] 27 0 rfl ?_ ?_; rotate_left 1)
             ·repeat first | refine lwp_seq fun K hK => ?_ | (with_reducible refine gA ?_; apply_assumption -exfalso -symm) | refine Stp.h ?_ | refine gF rfl ?_ | refine gG rfl ?_ | refine gM hC rfl sd ?_
              refine lwp_condS hC rfl sd ?_ ?_ <;> intro hb
              ·simp at hb
              ·repeat first | refine lwp_seq fun K hK => ?_ | (with_reducible refine gA ?_; apply_assumption -exfalso -symm) | refine Stp.h ?_ | refine gF rfl ?_ | refine gG rfl ?_ | refine gM hC rfl sd ?_
               refine gA ⟨j + 1, ?_, ?_, sub_intro hm [(0, some 0), (1, some 1), (2, some 2), (3, some 3), (4, some 4), (5, some 5), (6, some 6), (7, some 7), (8, some 8), (9, some 9), (10, some 10), (11, some 11), (12, some 12), (13, some 13)] rfl ?_⟩
               ·omega
               ·omega
               ·rw [g]
                exact sd
             ·simp only [e3]
              exact sd
           ·obtain rfl : j = L.length := by omega
            repeat first | refine lwp_seq fun K hK => ?_ | (with_reducible refine gA ?_; apply_assumption -exfalso -symm) | refine Stp.h ?_ | refine gF rfl ?_ | refine gG rfl ?_ | refine gM hC rfl sd ?_
            rw [HPP.out]
            (refine end_intro (by first | exact .inr rfl | exact .inl rfl) [(2, some 13)] rfl ?_)
            rw [hb']
            exact sd
       ·exact sd
      ·exact sd
     ·exact sd
   ·exact sd
 ·exact sd

end Go.Proofs.YtfmnfagcbehmdaaGreatDoor
