/- Chapter 5: tables copied and looked at, pairs copied and compared. -/
import Derived.Test.YtfmnfagcbehmdaaGreatDoorKf
import Derived.Test.YtfmnfagcbehmdaaGreatDoorDm
set_option linter.unusedVariables false
set_option linter.unusedSimpArgs false
namespace Go.Proofs.YtfmnfagcbehmdaaGreatDoor
open Go.RowKit Go.Sym

theorem app_tbl (j n : Nat) (len : Nat → Nat) (a : AV) : (Cont.app (.tbl j n len none) [a]).cells = (List.range (n + 1)).map fun q => if q = n then a else .tb j (.row q (len q)) := by
 simp only [Cont.cells]
 rw [List.range_succ, List.map_append]
 congr 1
 ·refine List.map_congr_left fun q hq => ?_
  have := List.mem_range.1 hq
  rw [if_neg (by omega)]
  rfl
 ·simp

def shTS (n : Nat) (R : Nat → List Int) : Bool := (List.range n).all (fun e => decide ((R e).length ≤ 9)) && decide (n ≤ 9)
def ShT_i (n : Nat) (R : Nat → List Int) (σ : Ren) : Inst := { f := 20, hin := [(0, roF n R), (1, roT 0 n R)], args := [.sl 1 n], hout := [], ret := bl (shTS n R), σ := σ }
theorem ShT_s (n : Nat) (R : Nat → List Int) (σ : Ren) (hn : n ≤ 9223372036854775807) : (ShT_i n R σ).ok Tryz.prog := by
 unfold ShT_i Inst.ok; dsimp only; refine spec_of_body (tys := tys) 2 Tryz.func20 (by kernel_rfl) rfl tys_ok rfl (Nat.le_of_ble_eq_true rfl) (fun _ _ h => (by cases h)) fun F hP hm hC hrd => ?_; conv => whnf
 repeat first | refine lwp_seq fun K hK => ?_ | (with_reducible refine gA ?_; apply_assumption -exfalso -symm) | refine Stp.h ?_ | refine gF rfl ?_ | refine gG rfl ?_ | refine gM hC rfl sd ?_
 refine lwp_loop (fun k : Nat => ⟨[(3, i64 k), (0, .sl 1 n)], [(0, roF n R), (1, roT 0 n R)], 2⟩) (fun k => k ≤ n ∧ ∀ j, j < k → (fun e => decide ((R e).length ≤ 9)) j = true) (fun k => n - k) 0 ⟨?_, sub_intro hm [(0, some 0), (1, some 1)] rfl ?_⟩ ?_
 ·exact ⟨Nat.zero_le _, fun j hj => absurd hj (Nat.not_lt_zero _)⟩
 ·exact sd
 ·rintro k ⟨hk, hkj⟩
  have e1 : (k : Int).toNat = k := Int.toNat_natCast k
  repeat first | refine lwp_seq fun K hK => ?_ | (with_reducible refine gA ?_; apply_assumption -exfalso -symm) | refine Stp.h ?_ | refine gF rfl ?_ | refine gG rfl ?_ | refine gM hC rfl sd ?_
  refine lwp_condS hC rfl sd ?_ ?_ <;> intro hb
  ·have hkn : k < n := by omega
   repeat first | refine lwp_seq fun K hK => ?_ | (with_reducible refine gA ?_; apply_assumption -exfalso -symm) | refine Stp.h ?_ | refine gF rfl ?_ | refine gG rfl ?_ | refine gM hC rfl sd ?_
   simp only [e1]
   refine lwp_condS hC rfl sd ?_ ?_ <;> intro hb
   ·have hno : shTS n R = false := by unfold shTS; rw [all_no hkn (show (fun e => decide ((R e).length ≤ 9)) k = false from decide_eq_false (by omega))]; rfl
    repeat first | refine lwp_seq fun K hK => ?_ | (with_reducible refine gA ?_; apply_assumption -exfalso -symm) | refine Stp.h ?_ | refine gF rfl ?_ | refine gG rfl ?_ | refine gM hC rfl sd ?_
    (refine end_intro (by first | exact .inr rfl | exact .inl rfl) [(0, some 0), (1, some 1)] rfl ?_)
    rw [hno]
    exact sd
   ·have hyes : (fun e => decide ((R e).length ≤ 9)) k = true := decide_eq_true (by omega)
    repeat first | refine lwp_seq fun K hK => ?_ | (with_reducible refine gA ?_; apply_assumption -exfalso -symm) | refine Stp.h ?_ | refine gF rfl ?_ | refine gG rfl ?_ | refine gM hC rfl sd ?_
    refine gA ⟨k + 1, ?_, ?_, sub_intro hm [(0, some 0), (1, some 1)] rfl ?_⟩
    ·exact ⟨by omega, fun j hj => by rcases Nat.lt_succ_iff_lt_or_eq.1 hj with h | rfl; exact hkj j h; exact hyes⟩
    ·omega
    ·exact sd
  ·obtain rfl : k = n := by omega
   have hyes : shTS k R = decide ((k : Int) ≤ 9) := by unfold shTS; rw [all_yes hkj]; simp; omega
   repeat first | refine lwp_seq fun K hK => ?_ | (with_reducible refine gA ?_; apply_assumption -exfalso -symm) | refine Stp.h ?_ | refine gF rfl ?_ | refine gG rfl ?_ | refine gM hC rfl sd ?_
   (refine end_intro (by first | exact .inr rfl | exact .inl rfl) [(0, some 0), (1, some 1)] rfl ?_)
   rw [hyes]
   exact sd

def LTab_i (n : Nat) (R : Nat → List Int) (σ : Ren) : Inst := { f := 23, hin := [(0, roF n R), (1, roT 0 n R)], args := [.sl 1 n], hout := [(2, tabC 3 n R), (3, famC n R)], ret := .sl 2 n, σ := σ }
theorem LTab_s (n : Nat) (R : Nat → List Int) (σ : Ren) (hn : n ≤ 1000000) (hR : ∀ e, e < n → (R e).length ≤ 1000000) : (LTab_i n R σ).ok Tryz.prog := by
 unfold LTab_i Inst.ok; dsimp only; refine spec_of_body (tys := tys) 2 Tryz.func23 (by kernel_rfl) rfl tys_ok rfl (Nat.le_of_ble_eq_true rfl) (fun _ _ h => (by cases h)) fun F hP hm hC hrd => ?_; conv => whnf
 repeat first | refine lwp_seq fun K hK => ?_ | (with_reducible refine gA ?_; apply_assumption -exfalso -symm) | refine Stp.h ?_ | refine gF rfl ?_ | refine gG rfl ?_ | refine gM hC rfl sd ?_
 refine lwp_sub (fam0_sub true 3 1 (fun q => (R q).length) (fun q => .ints .i64 (R q)) (by decide)) ?_
 refine lwp_loop (fun k : Nat => ⟨[(8, i64 k), (7, i64 n), (6, .sl 1 n), (3, .sl 2 k)], [(2, tabC 3 k R), (3, famC k R), (0, roF n R), (1, roT 0 n R)], 4⟩) (fun k => k ≤ n) (fun k => n - k) 0 ⟨?_, sub_intro hm [(0, some 0), (1, some 1), (2, none), (3, some 2)] rfl ?_⟩ ?_
 ·exact Nat.zero_le _
 ·exact sd
 ·rintro k hk
  have e1 : (k : Int).toNat = k := Int.toNat_natCast k
  repeat first | refine lwp_seq fun K hK => ?_ | (with_reducible refine gA ?_; apply_assumption -exfalso -symm) | refine Stp.h ?_ | refine gF rfl ?_ | refine gG rfl ?_ | refine gM hC rfl sd ?_
  refine lwp_condS hC rfl sd ?_ ?_ <;> intro hb
  ·have hkn : k < n := by omega
   have hRk := hR k hkn
   repeat first | refine lwp_seq fun K hK => ?_ | (with_reducible refine gA ?_; apply_assumption -exfalso -symm) | refine Stp.h ?_ | refine gF rfl ?_ | refine gG rfl ?_ | refine gM hC rfl sd ?_
   simp only [e1]
   repeat first | refine lwp_seq fun K hK => ?_ | (with_reducible refine gA ?_; apply_assumption -exfalso -symm) | refine Stp.h ?_ | refine gF rfl ?_ | refine gG rfl ?_ | refine gM hC rfl sd ?_
   have key1 : ∀ q, (R q).length = if q = k then 0 + (R k).length else (R q).length := fun q => by split; rename_i h; rw [h, Nat.zero_add]; rfl
   have key2 : ∀ q, (Cont.ints .i64 (R q)).cells = (if q = k then Cont.ints .i64 (R k) else Cont.ints .i64 (R q)).cells := fun q => by split; rename_i h; rw [h]; rfl
   refine gA ⟨k + 1, ?_, ?_, Sub.trans (put_sub (i := 7) (j := 3) (k := 5) (e := k) rfl rfl rfl (app_tbl _ _ _ _) (Nat.lt_succ_self _) (fun q h1 h2 => by omega) rfl) (sub_intro hm [(0, some 0), (1, some 1), (2, some 7), (3, some 8)] rfl ?_)⟩
   ·omega
   ·omega
   ·simp only [AllL, All, cd_p, cp_p, cv_p]
    (repeat' (first | refine And.intro ?_ ?_ | intro _)) <;> first | omega | exact True.intro | exact key1 _ | exact key2 _ | rfl
  ·obtain rfl : k = n := by omega
   repeat first | refine lwp_seq fun K hK => ?_ | (with_reducible refine gA ?_; apply_assumption -exfalso -symm) | refine Stp.h ?_ | refine gF rfl ?_ | refine gG rfl ?_ | refine gM hC rfl sd ?_
   (refine end_intro (by first | exact .inr rfl | exact .inl rfl) [(0, some 0), (1, some 1), (2, some 2), (3, some 3)] rfl ?_)
   exact sd

/-! The form of a table, as the reference looks at it: the same error. -/
theorem ctS_shape {m s : List Th} {n : Nat} {R : Nat → List Int} (h : n ≠ s.length ∨ ∃ e, e < n ∧ (R e).length ≠ m.length) : ctS m s n R = 2 := by
 unfold ctS
 rw [if_pos]
 rcases h with h | ⟨e, he, h⟩
 ·rw [decide_eq_true (show (n : Int) ≠ s.length by omega)]
  cases decide (firstF (shortB m.length R) n ≥ 0) <;> rfl
 ·rw [firstF_any.2 ⟨e, he, by unfold shortB; simp; omega⟩]
  rfl
theorem ctS_ok {m s : List Th} {n : Nat} {R : Nat → List Int} (hn : n = s.length) (hl : ∀ e, e < n → (R e).length = m.length) : ctS m s n R = whenS (decide (firstF (fun i => outB ((catL R n).getD i 0)) (catL R n).length ≥ 0)) 3 := by
 unfold ctS
 rw [if_neg]
 have h1 : decide (firstF (shortB m.length R) n ≥ 0) = false := by
  cases q : decide (firstF (shortB m.length R) n ≥ 0) with
  | false => rfl
  | true =>
   obtain ⟨e, he, h2⟩ := firstF_any.1 q
   unfold shortB at h2
   have := hl e he
   simp at h2; omega
 rw [h1, decide_eq_false (show ¬ (n : Int) ≠ s.length by omega)]
 decide
theorem ctS_range {m s : List Th} {n : Nat} {R : Nat → List Int} (hn : n = s.length) (hl : ∀ e, e < n → (R e).length = m.length) {e k : Nat} (he : e < n) (hk : k < (R e).length) (h : outB ((R e).getD k 0) = true) : ctS m s n R = 3 := by
 rw [ctS_ok hn hl]
 have hm : (R e).getD k 0 ∈ catL R n := mem_catL (by rw [List.getD_eq_getElem?_getD, List.getElem?_eq_getElem hk]; exact List.getElem_mem hk) he
 obtain ⟨i, hi, e1⟩ := List.getElem_of_mem hm
 rw [firstF_any.2 ⟨i, hi, by rw [List.getD_eq_getElem?_getD, List.getElem?_eq_getElem hi]; show outB (catL R n)[i] = true; rw [e1]; exact h⟩]
 rfl
theorem catL_mem {R : Nat → List Int} {x : Int} : ∀ {n : Nat}, x ∈ catL R n → ∃ e, e < n ∧ x ∈ R e
 | 0, h => by cases h
 | n + 1, h => by
  rcases List.mem_append.1 h with h | h
  ·obtain ⟨e, he, h2⟩ := catL_mem h
   exact ⟨e, by omega, h2⟩
  ·exact ⟨n, by omega, h⟩
theorem getD_at {l : List Int} {k : Nat} (h : k < l.length) : l.getD k 0 = l[k] := by rw [List.getD_eq_getElem?_getD, List.getElem?_eq_getElem h]; rfl
theorem ctS_good {m s : List Th} {n : Nat} {R : Nat → List Int} (hn : n = s.length) (hl : ∀ e, e < n → (R e).length = m.length) (h : ∀ e, e < n → ∀ k, k < (R e).length → outB ((R e).getD k 0) = false) : ctS m s n R = 0 := by
 rw [ctS_ok hn hl]
 cases q : decide (firstF (fun i => outB ((catL R n).getD i 0)) (catL R n).length ≥ 0) with
 | false => rfl
 | true =>
  obtain ⟨i, hi, h2⟩ := firstF_any.1 q
  rw [getD_at hi] at h2
  obtain ⟨e, he, h3⟩ := catL_mem (List.getElem_mem hi)
  obtain ⟨k, hk, h4⟩ := List.getElem_of_mem h3
  have h5 := h e he k hk
  rw [getD_at hk, h4, h2] at h5
  cases h5

def RShape_i (m s : List Th) (n : Nat) (R : Nat → List Int) (σ : Ren) : Inst := { f := 25, hin := tabIn m s n R, args := [rdA m s, .sl 3 n], hout := [], ret := i64 (ctS m s n R), σ := σ }
set_option maxRecDepth 20000 in
set_option maxHeartbeats 4000000 in
theorem RShape_s (m s : List Th) (n : Nat) (R : Nat → List Int) (σ : Ren) (hm' : m.length ≤ 1000000) (hs' : s.length ≤ 1000000) (hn : n ≤ 1000000) (hR : ∀ e, e < n → (R e).length ≤ 1000000) : (RShape_i m s n R σ).ok Tryz.prog := by
 unfold RShape_i Inst.ok; dsimp only; refine spec_of_body (tys := tys) 4 Tryz.func25 (by kernel_rfl) rfl tys_ok rfl (Nat.le_of_ble_eq_true rfl) (fun _ _ h => (by cases h)) fun F hP hm hC hrd => ?_; conv => whnf
 repeat first | refine lwp_seq fun K hK => ?_ | (with_reducible refine gA ?_; apply_assumption -exfalso -symm) | refine Stp.h ?_ | refine gF rfl ?_ | refine gG rfl ?_ | refine gM hC rfl sd ?_
 refine lwp_condS hC rfl sd ?_ ?_ <;> intro hb
 ·have hE : ctS m s n R = 2 := ctS_shape (.inl (by omega))
  repeat first | refine lwp_seq fun K hK => ?_ | (with_reducible refine gA ?_; apply_assumption -exfalso -symm) | refine Stp.h ?_ | refine gF rfl ?_ | refine gG rfl ?_ | refine gM hC rfl sd ?_
  (refine end_intro (by first | exact .inr rfl | exact .inl rfl) [(0, some 0), (1, some 1), (2, some 2), (3, some 3)] rfl ?_)
  rw [hE]
  exact sd
 ·have hns : n = s.length := by omega
  repeat first | refine lwp_seq fun K hK => ?_ | (with_reducible refine gA ?_; apply_assumption -exfalso -symm) | refine Stp.h ?_ | refine gF rfl ?_ | refine gG rfl ?_ | refine gM hC rfl sd ?_
  refine lwp_loop (fun i : Nat => ⟨[(5, i64 i), (1, .sl 3 n), (2, .ptr 4 0 0 0)], [(0, .ro m.length 2 (thC m)), (1, .ro s.length 2 (thC s)), (2, roF n R), (3, roT 2 n R), (4, .blk 25 [.sl 0 m.length, .sl 1 s.length])], 5⟩) (fun i => i ≤ n ∧ ∀ e, e < i → (R e).length = m.length) (fun i => n - i) 0 ⟨?_, sub_intro hm [(0, some 0), (1, some 1), (2, some 2), (3, some 3), (4, some 4)] rfl ?_⟩ ?_
  ·exact ⟨Nat.zero_le _, fun e he => absurd he (Nat.not_lt_zero _)⟩
  ·exact sd
  ·rintro i ⟨hi, hie⟩
   have e1 : (i : Int).toNat = i := Int.toNat_natCast i
   repeat first | refine lwp_seq fun K hK => ?_ | (with_reducible refine gA ?_; apply_assumption -exfalso -symm) | refine Stp.h ?_ | refine gF rfl ?_ | refine gG rfl ?_ | refine gM hC rfl sd ?_
   refine lwp_condS hC rfl sd ?_ ?_ <;> intro hb
   ·have hin : i < n := by omega
    repeat first | refine lwp_seq fun K hK => ?_ | (with_reducible refine gA ?_; apply_assumption -exfalso -symm) | refine Stp.h ?_ | refine gF rfl ?_ | refine gG rfl ?_ | refine gM hC rfl sd ?_
    (refine lwp_drawn hC (by rw [hP]; exact mixed) ⟨[], [], []⟩ (told0 _ _) [0, 0, 3, 7, 15, 0, 32, 96, 255] 8 rfl ?_ ?_; rotate_left 1)
    ·simp only [e1]
     repeat first | refine lwp_seq fun K hK => ?_ | (with_reducible refine gA ?_; apply_assumption -exfalso -symm) | refine Stp.h ?_ | refine gF rfl ?_ | refine gG rfl ?_ | refine gM hC rfl sd ?_
     refine lwp_condS hC rfl sd ?_ ?_ <;> intro hb
     ·have hE : ctS m s n R = 2 := ctS_shape (.inr ⟨i, hin, by omega⟩)
      repeat first | refine lwp_seq fun K hK => ?_ | (with_reducible refine gA ?_; apply_assumption -exfalso -symm) | refine Stp.h ?_ | refine gF rfl ?_ | refine gG rfl ?_ | refine gM hC rfl sd ?_
      (refine end_intro (by first | exact .inr rfl | exact .inl rfl) [(0, some 0), (1, some 1), (2, some 2), (3, some 3)] rfl ?_)
      rw [hE]
      exact sd
     ·have hyes : (R i).length = m.length := by omega
      repeat first | refine lwp_seq fun K hK => ?_ | (with_reducible refine gA ?_; apply_assumption -exfalso -symm) | refine Stp.h ?_ | refine gF rfl ?_ | refine gG rfl ?_ | refine gM hC rfl sd ?_
      refine gA ⟨i + 1, ?_, ?_, sub_intro hm [(0, some 0), (1, some 1), (2, some 2), (3, some 3), (4, some 4)] rfl ?_⟩
      ·exact ⟨by omega, fun e he => by rcases Nat.lt_succ_iff_lt_or_eq.1 he with h | rfl; exact hie e h; exact hyes⟩
      ·omega
      ·exact sd
    ·simp only [e1]
     exact sd
   ·obtain rfl : i = n := by omega
    have hlen := hie
    have HL := Lib.hid hlen
    clear hie hlen hb
    repeat first | refine lwp_seq fun K hK => ?_ | (with_reducible refine gA ?_; apply_assumption -exfalso -symm) | refine Stp.h ?_ | refine gF rfl ?_ | refine gG rfl ?_ | refine gM hC rfl sd ?_
    refine lwp_loop (fun j : Nat => ⟨[(6, i64 j), (1, .sl 3 i), (2, .ptr 4 0 0 0)], [(0, .ro m.length 2 (thC m)), (1, .ro s.length 2 (thC s)), (2, roF i R), (3, roT 2 i R), (4, .blk 25 [.sl 0 m.length, .sl 1 s.length])], 5⟩) (fun j => j ≤ i ∧ ∀ e, e < j → ∀ k, k < (R e).length → outB ((R e).getD k 0) = false) (fun j => i - j) 0 ⟨?_, sub_intro hm [(0, some 0), (1, some 1), (2, some 2), (3, some 3), (4, some 4)] rfl ?_⟩ ?_
    ·exact ⟨Nat.zero_le _, fun e he => absurd he (Nat.not_lt_zero _)⟩
    ·exact sd
    ·rintro j ⟨hj, hje⟩
     have e2 : (j : Int).toNat = j := Int.toNat_natCast j
     have HJE := Lib.hid hje
     clear hje
     repeat first | refine lwp_seq fun K hK => ?_ | (with_reducible refine gA ?_; apply_assumption -exfalso -symm) | refine Stp.h ?_ | refine gF rfl ?_ | refine gG rfl ?_ | refine gM hC rfl sd ?_
     refine lwp_condS hC rfl sd ?_ ?_ <;> intro hb
     ·have hjn : j < i := by omega
      have hRj := hR j hjn
      repeat first | refine lwp_seq fun K hK => ?_ | (with_reducible refine gA ?_; apply_assumption -exfalso -symm) | refine Stp.h ?_ | refine gF rfl ?_ | refine gG rfl ?_ | refine gM hC rfl sd ?_
      refine lwp_loop (fun k : Nat => ⟨[(7, i64 k), (6, i64 j), (1, .sl 3 i), (2, .ptr 4 0 0 0)], [(0, .ro m.length 2 (thC m)), (1, .ro s.length 2 (thC s)), (2, roF i R), (3, roT 2 i R), (4, .blk 25 [.sl 0 m.length, .sl 1 s.length])], 5⟩) (fun k => k ≤ (R j).length ∧ ∀ e, e < k → outB ((R j).getD e 0) = false) (fun k => (R j).length - k) 0 ⟨?_, sub_intro hm [(0, some 0), (1, some 1), (2, some 2), (3, some 3), (4, some 4)] rfl ?_⟩ ?_
      ·exact ⟨Nat.zero_le _, fun e he => absurd he (Nat.not_lt_zero _)⟩
      ·exact sd
      ·rintro k ⟨hk, hke⟩
       have e3 : (k : Int).toNat = k := Int.toNat_natCast k
       repeat first | refine lwp_seq fun K hK => ?_ | (with_reducible refine gA ?_; apply_assumption -exfalso -symm) | refine Stp.h ?_ | refine gF rfl ?_ | refine gG rfl ?_ | refine gM hC rfl sd ?_
       simp only [e2]
       refine lwp_condS hC rfl sd ?_ ?_ <;> intro hb
       ·have hkl : k < (R j).length := by omega
        repeat first | refine lwp_seq fun K hK => ?_ | (with_reducible refine gA ?_; apply_assumption -exfalso -symm) | refine Stp.h ?_ | refine gF rfl ?_ | refine gG rfl ?_ | refine gM hC rfl sd ?_
        (refine lwp_region hC ⟨[], [], [(7, CheckRange_i ((R j).getD k 0) (-1) 999999999)]⟩ (told1 _ (by rw [hP]; exact (calls_cons (CheckRange_s _ _ _) calls_nil))) rfl ?_ ?_; rotate_left 1)
        ·repeat first | refine lwp_seq fun K hK => ?_ | (with_reducible refine gA ?_; apply_assumption -exfalso -symm) | refine Stp.h ?_ | refine gF rfl ?_ | refine gG rfl ?_ | refine gM hC rfl sd ?_
         refine lwp_condS hC rfl sd ?_ ?_ <;> intro hb
         ·have hout : outB ((R j).getD k 0) = true := by
           cases q : outB ((R j).getD k 0) with
           | true => rfl
           | false =>
            have := outB_no.1 q
            unfold withinS at hb
            rw [if_neg (by omega)] at hb
            exact absurd rfl hb
          have hw : withinS ((R j).getD k 0) (-1) 999999999 = 3 := by
           unfold withinS at hb ⊢
           split at hb
           ·rename_i h; rw [if_pos h]
           ·exact absurd rfl hb
          have hE : ctS m s i R = 3 := ctS_range hns HL.out hjn hkl hout
          repeat first | refine lwp_seq fun K hK => ?_ | (with_reducible refine gA ?_; apply_assumption -exfalso -symm) | refine Stp.h ?_ | refine gF rfl ?_ | refine gG rfl ?_ | refine gM hC rfl sd ?_
          (refine end_intro (by first | exact .inr rfl | exact .inl rfl) [(0, some 0), (1, some 1), (2, some 2), (3, some 3)] rfl ?_)
          rw [hE, hw]
          exact sd
         ·have hno : outB ((R j).getD k 0) = false := by
           refine outB_no.2 ?_
           unfold withinS at hb
           split at hb
           ·cases hb
           ·omega
          repeat first | refine lwp_seq fun K hK => ?_ | (with_reducible refine gA ?_; apply_assumption -exfalso -symm) | refine Stp.h ?_ | refine gF rfl ?_ | refine gG rfl ?_ | refine gM hC rfl sd ?_
          refine gA ⟨k + 1, ?_, ?_, sub_intro hm [(0, some 0), (1, some 1), (2, some 2), (3, some 3), (4, some 4)] rfl ?_⟩
          ·exact ⟨by omega, fun e he => by rcases Nat.lt_succ_iff_lt_or_eq.1 he with h | rfl; exact hke e h; exact hno⟩
          ·omega
          ·exact sd
        ·simp only [e2, e3]
         exact sd
       ·obtain rfl : k = (R j).length := by omega
        repeat first | refine lwp_seq fun K hK => ?_ | (with_reducible refine gA ?_; apply_assumption -exfalso -symm) | refine Stp.h ?_ | refine gF rfl ?_ | refine gG rfl ?_ | refine gM hC rfl sd ?_
        refine gA ⟨j + 1, ?_, ?_, sub_intro hm [(0, some 0), (1, some 1), (2, some 2), (3, some 3), (4, some 4)] rfl ?_⟩
        ·exact ⟨by omega, fun e he => by rcases Nat.lt_succ_iff_lt_or_eq.1 he with h | rfl; exact HJE.out e h; exact hke⟩
        ·omega
        ·exact sd
     ·obtain rfl : j = i := by omega
      have hE : ctS m s j R = 0 := ctS_good hns HL.out HJE.out
      repeat first | refine lwp_seq fun K hK => ?_ | (with_reducible refine gA ?_; apply_assumption -exfalso -symm) | refine Stp.h ?_ | refine gF rfl ?_ | refine gG rfl ?_ | refine gM hC rfl sd ?_
      (refine end_intro (by first | exact .inr rfl | exact .inl rfl) [(0, some 0), (1, some 1), (2, some 2), (3, some 3)] rfl ?_)
      rw [hE]
      exact sd

def LPairsC_i (l : List (Int × Int)) (σ : Ren) : Inst := { f := 34, hin := [(0, .ro l.length 2 (prC l))], args := [.sl 0 l.length], hout := [(1, .row 76 l.length 2 (prC l))], ret := .sl 1 l.length, σ := σ }
theorem LPairsC_s (l : List (Int × Int)) (σ : Ren) (hl : l.length ≤ 1000000) : (LPairsC_i l σ).ok Tryz.prog := by
 unfold LPairsC_i Inst.ok; dsimp only; refine spec_of_body (tys := tys) 1 Tryz.func34 (by kernel_rfl) rfl tys_ok rfl (Nat.le_of_ble_eq_true rfl) (fun _ _ h => (by cases h)) fun F hP hm hC hrd => ?_; conv => whnf
 repeat first | refine lwp_seq fun K hK => ?_ | (with_reducible refine gA ?_; apply_assumption -exfalso -symm) | refine Stp.h ?_ | refine gF rfl ?_ | refine gG rfl ?_ | refine gM hC rfl sd ?_
 refine lwp_loop (fun k : Nat => ⟨[(8, i64 k), (7, i64 l.length), (6, .sl 0 l.length), (3, .sl 1 k)], [(1, .row 76 k 2 (prC (l.take k))), (0, .ro l.length 2 (prC l))], 2⟩) (fun k => k ≤ l.length) (fun k => l.length - k) 0 ⟨?_, sub_intro hm [(0, some 0), (1, none)] rfl ?_⟩ ?_
 ·exact Nat.zero_le _
 ·exact sd
 ·rintro k hk
  repeat first | refine lwp_seq fun K hK => ?_ | (with_reducible refine gA ?_; apply_assumption -exfalso -symm) | refine Stp.h ?_ | refine gF rfl ?_ | refine gG rfl ?_ | refine gM hC rfl sd ?_
  refine lwp_condS hC rfl sd ?_ ?_ <;> intro hb
  ·repeat first | refine lwp_seq fun K hK => ?_ | (with_reducible refine gA ?_; apply_assumption -exfalso -symm) | refine Stp.h ?_ | refine gF rfl ?_ | refine gG rfl ?_ | refine gM hC rfl sd ?_
   refine gA ⟨k + 1, ?_, ?_, sub_intro hm [(0, some 0), (1, some 5)] rfl ?_⟩
   ·omega
   ·omega
   ·have e := prC_snoc (l.take k) (l.getD (k : Int).toNat (0, 0))
    rw [show ((k : Int)).toNat = k from Int.toNat_natCast k, ← take_snoc _ _ _ (by omega)] at e
    have e2 : (prC (l.take (k + 1))).cells = (catC (prC (l.take k)) (Cont.exp [.lit (.int .i64 (l.getD (k : Int).toNat (0, 0)).1), .lit (.int .i64 (l.getD (k : Int).toNat (0, 0)).2)])).cells := by
     rw [catC_cells, show ((k : Int)).toNat = k from Int.toNat_natCast k, e]; rfl
    exact sd
  ·repeat first | refine lwp_seq fun K hK => ?_ | (with_reducible refine gA ?_; apply_assumption -exfalso -symm) | refine Stp.h ?_ | refine gF rfl ?_ | refine gG rfl ?_ | refine gM hC rfl sd ?_
   (refine end_intro (by first | exact .inr rfl | exact .inl rfl) [(1, some 1)] rfl ?_)
   obtain rfl : k = l.length := by omega
   rw [List.take_of_length_le (by omega)]
   exact sd



/-! Whether an alignment is before another one. -/
def lexB (p q : Int × Int) : Bool := bif decide (p.1 < q.1) then true else bif decide (p.1 = q.1) then decide (p.2 < q.2) else false
def lessL : List (Int × Int) → List (Int × Int) → Bool
 | [], _ => false
 | _ :: _, [] => false
 | p :: l, q :: r => if p = q then lessL l r else lexB p q
theorem less_step {l r : List (Int × Int)} {k : Nat} (h1 : k < l.length) (h2 : k < r.length) : lessL (l.drop k) (r.drop k) = if prAt l k = prAt r k then lessL (l.drop (k + 1)) (r.drop (k + 1)) else lexB (prAt l k) (prAt r k) := by
 rw [List.drop_eq_getElem_cons h1, List.drop_eq_getElem_cons h2]
 unfold prAt
 rw [List.getD, List.getD, List.getElem?_eq_getElem h1, List.getElem?_eq_getElem h2]
 rfl
def Less_i (l r : List (Int × Int)) (σ : Ren) : Inst := { f := 36, hin := [(0, .ro l.length 2 (prC l)), (1, .ro r.length 2 (prC r))], args := [.sl 0 l.length, .sl 1 r.length], hout := [], ret := bl (lessL l r), σ := σ }
set_option maxRecDepth 40000 in
set_option maxHeartbeats 4000000 in
theorem Less_s (l r : List (Int × Int)) (σ : Ren) (hl : l.length ≤ 1000000) (hr : r.length = l.length) : (Less_i l r σ).ok Tryz.prog := by
 unfold Less_i Inst.ok; dsimp only; refine spec_of_body (tys := tys) 2 Tryz.func36 (by kernel_rfl) rfl tys_ok rfl (Nat.le_of_ble_eq_true rfl) (fun _ _ h => (by cases h)) fun F hP hm hC hrd => ?_; conv => whnf
 have h0 : lessL l r = lessL (l.drop 0) (r.drop 0) := rfl
 repeat first | refine lwp_seq fun K hK => ?_ | (with_reducible refine gA ?_; apply_assumption -exfalso -symm) | refine Stp.h ?_ | refine gF rfl ?_ | refine gG rfl ?_ | refine gM hC rfl sd ?_
 refine lwp_loop (fun k : Nat => ⟨[(8, i64 k), (7, i64 l.length), (0, .sl 0 l.length), (1, .sl 1 r.length)], [(0, .ro l.length 2 (prC l)), (1, .ro r.length 2 (prC r))], 2⟩) (fun k => k ≤ l.length ∧ lessL l r = lessL (l.drop k) (r.drop k)) (fun k => l.length - k) 0 ⟨?_, sub_intro hm [(0, some 0), (1, some 1)] rfl ?_⟩ ?_
 ·exact ⟨Nat.zero_le _, h0⟩
 ·exact sd
 ·rintro k ⟨hk, hkl⟩
  have e1 : (k : Int).toNat = k := Int.toNat_natCast k
  repeat first | refine lwp_seq fun K hK => ?_ | (with_reducible refine gA ?_; apply_assumption -exfalso -symm) | refine Stp.h ?_ | refine gF rfl ?_ | refine gG rfl ?_ | refine gM hC rfl sd ?_
  refine lwp_condS hC rfl sd ?_ ?_ <;> intro hb
  ·have hkn : k < l.length := by omega
   have hst := less_step hkn (show k < r.length by omega)
   have HS := Lib.hid hst
   have HK := Lib.hid hkl
   clear hst hkl
   repeat first | refine lwp_seq fun K hK => ?_ | (with_reducible refine gA ?_; apply_assumption -exfalso -symm) | refine Stp.h ?_ | refine gF rfl ?_ | refine gG rfl ?_ | refine gM hC rfl sd ?_
   (refine lwp_drawn hC (by rw [hP]; exact mixed) ⟨[], [(8, custRPair)], []⟩ ⟨(fun p hp => by rcases List.mem_cons.1 hp with rfl | hp; rw [hP]; exact custRPair_ok; cases hp), (fun _ h => (by cases h))⟩ [0, 0, 3, 7, 0, 0, 48, 112, 255] 8 rfl ?_ ?_; rotate_left 1)
   ·simp only [e1]
    obtain ⟨p, hp⟩ : ∃ p, l.getD k (0, 0) = p := ⟨_, rfl⟩
    obtain ⟨q, hq⟩ : ∃ q, r.getD k (0, 0) = q := ⟨_, rfl⟩
    have hs := HS.out
    change _ = if l.getD k (0, 0) = r.getD k (0, 0) then _ else lexB (l.getD k (0, 0)) (r.getD k (0, 0)) at hs
    rw [hp, hq] at hs ⊢
    clear HS
    repeat first | refine lwp_seq fun K hK => ?_ | (with_reducible refine gA ?_; apply_assumption -exfalso -symm) | refine Stp.h ?_ | refine gF rfl ?_ | refine gG rfl ?_ | refine gM hC rfl sd ?_
    refine lwp_condS hC rfl sd ?_ ?_ <;> intro hb
    ·have hne : ¬ p = q := fun e => by
      subst e
      simp at hb
     have hls : lessL l r = lexB p q := by rw [HK.out, hs, if_neg hne]
     clear HK hs
     repeat first | refine lwp_seq fun K hK => ?_ | (with_reducible refine gA ?_; apply_assumption -exfalso -symm) | refine Stp.h ?_ | refine gF rfl ?_ | refine gG rfl ?_ | refine gM hC rfl sd ?_
     (refine lwp_drawn2 hC (by rw [hP]; exact mixed) ⟨[], [], []⟩ (told0 _ _) [0, 0, 3, 7, 15, 0, 0, 96, 224, 480, 1023, 2047, 4095, 4095, 16383, 32767, 65535, 4095, 4095, 397311, 921599, 1970175, 4194303, 8388607, 16777215, 16777215, 67108863, 134217727, 268435455, 16777215, 16777215, 1627389951, 3774873599, 8069840895, 17179869183, 34359738367, 68719476735, 137438953471] 38 0 rfl ?_ ?_; rotate_left 1)
     ·simp only [e1, hp, hq]
      repeat first | refine lwp_seq fun K hK => ?_ | (with_reducible refine gA ?_; apply_assumption -exfalso -symm) | refine Stp.h ?_ | refine gF rfl ?_ | refine gG rfl ?_ | refine gM hC rfl sd ?_
      rw [hls]
      (refine end_intro (by first | exact .inr rfl | exact .inl rfl) [(0, some 0), (1, some 1)] rfl ?_)
      unfold lexB
      exact sd
     ·simp only [e1, hp, hq]
      exact sd
    ·have heq : p = q := by
      simp only [Bool.not_eq_true, Bool.not_eq_false', Bool.and_eq_true, beq_iff_eq] at hb
      exact Prod.ext hb.1 hb.2
     have hls : lessL l r = lessL (l.drop (k + 1)) (r.drop (k + 1)) := by rw [HK.out, hs, if_pos heq]
     clear HK hs
     repeat first | refine lwp_seq fun K hK => ?_ | (with_reducible refine gA ?_; apply_assumption -exfalso -symm) | refine Stp.h ?_ | refine gF rfl ?_ | refine gG rfl ?_ | refine gM hC rfl sd ?_
     refine gA ⟨k + 1, ?_, ?_, sub_intro hm [(0, some 0), (1, some 1)] rfl ?_⟩
     ·exact ⟨by omega, hls⟩
     ·omega
     ·exact sd
   ·simp only [e1]
    exact sd
  ·obtain rfl : k = l.length := by omega
   have hno : lessL l r = false := by rw [hkl, List.drop_eq_nil_of_le (Nat.le_refl _)]; rfl
   repeat first | refine lwp_seq fun K hK => ?_ | (with_reducible refine gA ?_; apply_assumption -exfalso -symm) | refine Stp.h ?_ | refine gF rfl ?_ | refine gG rfl ?_ | refine gM hC rfl sd ?_
   (refine end_intro (by first | exact .inr rfl | exact .inl rfl) [(0, some 0), (1, some 1)] rfl ?_)
   rw [hno]
   exact sd

end Go.Proofs.YtfmnfagcbehmdaaGreatDoor
