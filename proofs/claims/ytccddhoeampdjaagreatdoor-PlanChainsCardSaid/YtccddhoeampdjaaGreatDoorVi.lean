/- Chapter 9: the longest chain, the reference's. -/
import Derived.Test.YtccddhoeampdjaaGreatDoorVg
set_option linter.unusedVariables false
set_option linter.unusedSimpArgs false
namespace Go.Proofs.YtccddhoeampdjaaGreatDoor
open Go.RowKit Go.Sym

def toI (L : List Nat) : List Int := L.map fun x : Nat => (x : Int)
theorem toI_len (L : List Nat) : (toI L).length = L.length := by simp [toI]
theorem toI_cons (a : Nat) (L : List Nat) : toI (a :: L) = (a : Int) :: toI L := rfl
theorem toI_getD (L : List Nat) (k : Nat) : (toI L).getD k 0 = (L.getD k 0 : Nat) := by
  unfold toI
  rw [List.getD_eq_getElem?_getD, List.getD_eq_getElem?_getD, List.getElem?_map]
  cases L[k]? <;> rfl
theorem catI_head (k : Int) (l : List Int) : (Cont.ints .i64 (k :: l)).cells = (catC (Cont.exp [i64 k]) (Cont.ints .i64 l)).cells := by rw [catC_cells]; simp [Cont.cells]
abbrev chG (l : List Jb) (i : Nat) : List Nat := cF l.length (edJ l) l.length i
/-- The best of the chains that the first jobs begin, of those that a job lets. -/
def bsJ (l : List Jb) (p : Nat → Bool) (k : Nat) : List Nat := bstC (chG l) p k
theorem bsJ_on {l : List Jb} {p : Nat → Bool} {k : Nat} (h : p k = true) : bsJ l p (k + 1) = if (bsJ l p k).length < (chG l k).length then chG l k else bsJ l p k := if_pos h
theorem bsJ_off {l : List Jb} {p : Nat → Bool} {k : Nat} (h : p k = false) : bsJ l p (k + 1) = bsJ l p k := if_neg (by rw [h]; decide)
theorem mF_le {n : Nat} {E : Nat → Nat → Bool} : ∀ f i, mF n E f i ≤ f
  | 0, _ => Nat.le_refl _
  | f + 1, i => by
    have key : ∀ k, mxF (mF n E f) (E i) k ≤ f := by
      intro k
      induction k with
      | zero => exact Nat.zero_le _
      | succ k ih =>
        simp only [mxF]
        split
        · have := mF_le (n := n) (E := E) f k; omega
        · exact ih
    have := key n
    show 1 + _ ≤ _
    omega
theorem chG_len (l : List Jb) (i : Nat) : (chG l i).length ≤ l.length := by rw [cF_len]; exact mF_le _ _
theorem bsJ_len (l : List Jb) (p : Nat → Bool) : ∀ k, (bsJ l p k).length ≤ l.length
  | 0 => Nat.zero_le _
  | k + 1 => by
    unfold bsJ
    simp only [bstC]
    split
    · split
      · exact chG_len l k
      · exact bsJ_len l p k
    · exact bsJ_len l p k
def RCh_i (l : List Jb) (i : Nat) (σ : Ren) : Inst := { f := 137, hin := jobIn l, args := [.sl 0 l.length, i64 i], hout := [(2, .row 3 (toI (chG l i)).length 1 (.ints .i64 (toI (chG l i))))], ret := .sl 2 (toI (chG l i)).length, σ := σ }
set_option maxRecDepth 20000 in
set_option maxHeartbeats 4000000 in
theorem RCh_s (l : List Jb) (hl : l.length ≤ 1000) (hln : ∀ k, lnJ l k ≤ 1000) {rk : Nat → Nat} (hrk : Ranked l.length (edJ l) rk) : ∀ (c i : Nat) (σ : Ren), rk i < c → i < l.length → (RCh_i l i σ).ok Tryz.prog
  | 0, i, σ, hc, _ => by omega
  | c + 1, i, σ, hc, hi => by
    have ih := fun k σ' h1 h2 => RCh_s l hl hln hrk c k σ' h1 h2
    have hst := fun k hk he => hrk.1 i k hi hk he
    have hfx := cF_fix hrk hi
    have hfx : chG l i = i :: bsJ l (edJ l i) l.length := hfx
    have hb0 : bsJ l (edJ l i) 0 = [] := rfl
    have hi0 : ((i : Int)).toNat = i := Int.toNat_natCast i
    have HIH := Lib.hid ih
    have HST := Lib.hid hst
    have HFX := Lib.hid hfx
    have HB0 := Lib.hid hb0
    clear ih hst hfx hb0
    unfold RCh_i
    rw [HFX.out]
    unfold jobIn Inst.ok; dsimp only; refine spec_of_body (tys := tys) 2 Tryz.func137 (by kernel_rfl) rfl tys_ok rfl (Nat.le_of_ble_eq_true rfl) (fun _ _ h => (by cases h)) fun F hP hm hC hrd => ?_; conv => whnf
    repeat first | refine lwp_seq fun K hK => ?_ | (with_reducible refine gA ?_; apply_assumption -exfalso -symm) | refine Stp.h ?_ | refine gF rfl ?_ | refine gG rfl ?_ | refine gM hC rfl sd ?_
    refine lwp_loop (fun k : Nat => ⟨[(6, i64 k), (5, .sl 2 (toI (bsJ l (edJ l i) k)).length), (0, .sl 0 l.length), (1, i64 i)], [(2, .row 3 (toI (bsJ l (edJ l i) k)).length 1 (.ints .i64 (toI (bsJ l (edJ l i) k)))), (0, jbCh l 1), (1, fmCh l)], 3⟩) (fun k => k ≤ l.length) (fun k => l.length - k) 0 ⟨?_, sub_intro hm [(0, some 0), (1, some 1), (2, none)] rfl ?_⟩ ?_
    · exact Nat.zero_le _
    · rw [HB0.out]
      exact sd
    · rintro k hk
      have hkk : ((k : Int)).toNat = k := Int.toNat_natCast k
      have hlk := hln k
      repeat first | refine lwp_seq fun K hK => ?_ | (with_reducible refine gA ?_; apply_assumption -exfalso -symm) | refine Stp.h ?_ | refine gF rfl ?_ | refine gG rfl ?_ | refine gM hC rfl sd ?_
      refine lwp_condS hC rfl sd ?_ ?_ <;> intro hb
      · have hk2 : k < l.length := by omega
        clear hb
        have hbl := bsJ_len l (edJ l i) k
        have hcl := chG_len l k
        have hon := bsJ_on (l := l) (p := edJ l i) (k := k)
        have hoff := bsJ_off (l := l) (p := edJ l i) (k := k)
        have HON := Lib.hid hon
        have HOFF := Lib.hid hoff
        clear hon hoff
        obtain ⟨B, hBe⟩ : ∃ B, bsJ l (edJ l i) k = B := ⟨_, rfl⟩
        rw [hBe] at hbl HON HOFF
        rw [hBe]
        clear hBe
        have htl := toI_len B
        have htc := toI_len (chG l k)
        have hhw := HWd_s l k (l.getD i jbD).name [(0, some 1)] hk2 (by omega)
        unfold HWd_i at hhw
        obtain ⟨e, hee⟩ : ∃ e, edJ l i k = e := ⟨_, rfl⟩
        rw [show memS (l.getD k jbD).af (l.getD i jbD).name = e from hee] at hhw
        rw [hee] at HON HOFF
        have HW := Lib.hid hhw
        have HEE := Lib.hid hee
        clear hhw hee
        repeat first | refine lwp_seq fun K hK => ?_ | (with_reducible refine gA ?_; apply_assumption -exfalso -symm) | refine Stp.h ?_ | refine gF rfl ?_ | refine gG rfl ?_
        (refine lwp_drawn hC (by rw [hP]; exact mixed) ⟨[], [], [(10, { f := 80, hin := [(0, fmCh l)], args := [.tb 0 (.row k (lnJ l k)), Sb (l.getD i jbD).name], hout := [], ret := bl e, σ := [(0, some 1)] })]⟩ (told1 _ (by rw [hP]; exact (calls_cons (HW.out) calls_nil))) [0, 0, 3, 7, 15, 0, 0, 96, 224, 480, 1023, 2047] 10 rfl ?_ ?_; rotate_left 1)
        · cases e with
          | false =>
            have HOF := Lib.hid (HOFF.out rfl)
            repeat first | refine lwp_seq fun K hK => ?_ | (with_reducible refine gA ?_; apply_assumption -exfalso -symm) | refine Stp.h ?_ | refine gF rfl ?_ | refine gG rfl ?_ | refine gM hC rfl sd ?_
            refine lwp_condS hC rfl sd ?_ ?_ <;> intro hb
            · clear hb
              repeat first | refine lwp_seq fun K hK => ?_ | (with_reducible refine gA ?_; apply_assumption -exfalso -symm) | refine Stp.h ?_ | refine gF rfl ?_ | refine gG rfl ?_ | refine gM hC rfl sd ?_
              refine gA ⟨k + 1, ?_, ?_, sub_intro hm [(0, some 0), (1, some 1), (2, some 2)] rfl ?_⟩
              · omega
              · omega
              · rw [HOF.out]
                exact sd
            · simp at hb
          | true =>
            have HO2 := Lib.hid (HON.out rfl)
            have hlt := HST.out k hk2 HEE.out
            repeat first | refine lwp_seq fun K hK => ?_ | (with_reducible refine gA ?_; apply_assumption -exfalso -symm) | refine Stp.h ?_ | refine gF rfl ?_ | refine gG rfl ?_ | refine gM hC rfl sd ?_
            refine lwp_condS hC rfl sd ?_ ?_ <;> intro hb
            · simp at hb
            · clear hb
              repeat first | refine lwp_seq fun K hK => ?_ | (with_reducible refine gA ?_; apply_assumption -exfalso -symm) | refine Stp.h ?_ | refine gF rfl ?_ | refine gG rfl ?_ | refine gM hC rfl sd ?_
              (refine lwp_region hC ⟨[], [], [(2, RCh_i l k [(0, some 0), (1, some 1)])]⟩ (told1 _ (by rw [hP]; exact (calls_cons (HIH.out k _ (by omega) hk2) calls_nil))) rfl ?_ ?_; rotate_left 1)
              · repeat first | refine lwp_seq fun K hK => ?_ | (with_reducible refine gA ?_; apply_assumption -exfalso -symm) | refine Stp.h ?_ | refine gF rfl ?_ | refine gG rfl ?_ | refine gM hC rfl sd ?_
                refine lwp_condS hC rfl sd ?_ ?_ <;> intro hb
                · have hgt : B.length < (chG l k).length := by omega
                  have e := HO2.out
                  rw [if_pos hgt] at e
                  have EE := Lib.hid e
                  clear hb hgt e
                  repeat first | refine lwp_seq fun K hK => ?_ | (with_reducible refine gA ?_; apply_assumption -exfalso -symm) | refine Stp.h ?_ | refine gF rfl ?_ | refine gG rfl ?_ | refine gM hC rfl sd ?_
                  refine gA ⟨k + 1, ?_, ?_, sub_intro hm [(0, some 0), (1, some 1), (2, some 3)] rfl ?_⟩
                  · omega
                  · omega
                  · rw [EE.out]
                    exact sd
                · have hgt : ¬ B.length < (chG l k).length := by omega
                  have e := HO2.out
                  rw [if_neg hgt] at e
                  have EE := Lib.hid e
                  clear hb hgt e
                  repeat first | refine lwp_seq fun K hK => ?_ | (with_reducible refine gA ?_; apply_assumption -exfalso -symm) | refine Stp.h ?_ | refine gF rfl ?_ | refine gG rfl ?_ | refine gM hC rfl sd ?_
                  refine gA ⟨k + 1, ?_, ?_, sub_intro hm [(0, some 0), (1, some 1), (2, some 2)] rfl ?_⟩
                  · omega
                  · omega
                  · rw [EE.out]
                    exact sd
              · exact sd
        · rw [hkk, hi0]
          exact sd
      · obtain rfl : k = l.length := by omega
        clear hb
        have hbl := bsJ_len l (edJ l i) l.length
        obtain ⟨B, hBe⟩ : ∃ B, bsJ l (edJ l i) l.length = B := ⟨_, rfl⟩
        rw [hBe] at hbl
        rw [hBe]
        have HBE := Lib.hid hBe
        clear hBe
        have htl := toI_len B
        have hcat := catI_head (i : Int) (toI B)
        have hlc : (((i : Int) :: toI B)).length = 1 + (toI B).length := by rw [List.length_cons]; omega
        repeat first | refine lwp_seq fun K hK => ?_ | (with_reducible refine gA ?_; apply_assumption -exfalso -symm) | refine Stp.h ?_ | refine gF rfl ?_ | refine gG rfl ?_
        (refine lwp_region hC ⟨[], [], []⟩ (told0 _ _) rfl ?_ ?_; rotate_left 1)
        · repeat first | refine lwp_seq fun K hK => ?_ | (with_reducible refine gA ?_; apply_assumption -exfalso -symm) | refine Stp.h ?_ | refine gF rfl ?_ | refine gG rfl ?_ | refine gM hC rfl sd ?_
          (refine end_intro (by first | exact .inr rfl | exact .inl rfl) [(2, some 4)] rfl ?_)
          rw [HBE.out, toI_cons]
          simp only [AllL, All, cd_p, cp_p, cv_p]
          exact ⟨hcat, hlc, hlc, trivial⟩
        · exact sd

/-! The best of all. -/
def chB (l : List Jb) : List Nat := bsJ l (fun _ => true) l.length
def nmsJ (l : List Jb) (L : List Nat) : List ByteArray := L.map fun i => (l.getD i jbD).name
theorem nmsJ_len (l : List Jb) (L : List Nat) : (nmsJ l L).length = L.length := by simp [nmsJ]
def chS (l : List Jb) : List ByteArray := nmsJ l (chB l)
theorem strC_snoc (L : List ByteArray) (s : ByteArray) : (strC (L ++ [s])).cells = (catC (strC L) (Cont.exp [Sb s])).cells := by
  rw [catC_cells]
  refine List.ext_getElem? fun q => ?_
  simp only [strC, Cont.cells, List.length_append, List.length_singleton, Nat.mul_one]
  by_cases hq : q < L.length
  · rw [List.getElem?_append_left (by simp; exact hq), List.getElem?_map, List.getElem?_map, List.getElem?_range hq, List.getElem?_range (by omega)]
    simp only [Option.map_some, Nat.div_one, Nat.mod_one]
    rw [List.getD_eq_getElem?_getD (l := L ++ [s]), List.getElem?_append_left hq, ← List.getD_eq_getElem?_getD]
  · rw [List.getElem?_append_right (by simp; omega), List.length_map, List.length_range, List.getElem?_map]
    by_cases hq2 : q = L.length
    · subst hq2
      rw [List.getElem?_range (by omega)]
      simp [List.getD, Nat.mod_one]
    · rw [List.getElem?_eq_none (by simp; omega), List.getElem?_eq_none (by simp; omega)]
      rfl
theorem strC_one (s : ByteArray) : (strC [s]).cells = (Cont.exp [Sb s]).cells := by
  have h := strC_snoc [] s
  rw [List.nil_append] at h
  rw [h, catC_cells]
  rfl
theorem bstC_mem {g : Nat → List Nat} {p : Nat → Bool} : ∀ {k : Nat}, ∀ x ∈ bstC g p k, ∃ j, j < k ∧ x ∈ g j
  | 0, x, hx => by cases hx
  | k + 1, x, hx => by
    simp only [bstC] at hx
    have old : x ∈ bstC g p k → ∃ j, j < k + 1 ∧ x ∈ g j := fun h => by
      obtain ⟨j, h1, h2⟩ := bstC_mem x h
      exact ⟨j, by omega, h2⟩
    split at hx
    · split at hx
      · exact ⟨k, by omega, hx⟩
      · exact old hx
    · exact old hx
theorem cF_in {n : Nat} {E : Nat → Nat → Bool} : ∀ (f i : Nat), i < n → ∀ x ∈ cF n E f i, x < n
  | 0, _, _, x, hx => by cases hx
  | f + 1, i, hi, x, hx => by
    rcases List.mem_cons.1 hx with rfl | hx
    · exact hi
    · obtain ⟨j, h1, h2⟩ := bstC_mem x hx
      exact cF_in f j h1 x h2
theorem chB_in (l : List Jb) : ∀ x ∈ chB l, x < l.length := fun x hx => by
  obtain ⟨j, h1, h2⟩ := bstC_mem x hx
  exact cF_in _ j h1 x h2
theorem chB_pos {l : List Jb} {rk : Nat → Nat} (hrk : Ranked l.length (edJ l) rk) : (chB l).length = 0 ↔ l.length = 0 := by
  constructor
  · intro h
    rcases Nat.eq_zero_or_pos l.length with h0 | h0
    · exact h0
    · have h1 := bstC_len (chG l) (fun _ => true) l.length
      have h2 := mxF_ge (f := fun j => (chG l j).length) (p := fun _ => true) (j := 0) rfl (k := l.length) h0
      have h3 : (chG l 0).length = mF l.length (edJ l) l.length 0 := cF_len _ _
      have h4 := mF_pos hrk h0
      have h2 : (chG l 0).length ≤ mxF (fun j => (chG l j).length) (fun _ => true) l.length := h2
      have h1 : (chB l).length = _ := h1
      omega
  · intro h
    have := bsJ_len l (fun _ => true) l.length
    have this : (chB l).length ≤ l.length := this
    omega
def RCn_i (l : List Jb) (σ : Ren) : Inst := { f := 65, hin := jobIn l, args := [.sl 0 l.length], hout := [(2, .row 9 (chS l).length 1 (strC (chS l)))], ret := .tup [.sl 2 (chS l).length, i64 (if l.length = 0 then 7 else 0)], σ := σ }
set_option maxRecDepth 20000 in
set_option maxHeartbeats 4000000 in
theorem RCn_s (l : List Jb) (σ : Ren) (hl : l.length ≤ 1000) (hln : ∀ k, lnJ l k ≤ 1000) {rk : Nat → Nat} (hrk : Ranked l.length (edJ l) rk) : (RCn_i l σ).ok Tryz.prog := by
  have hpos := chB_pos hrk
  have hb0 : bsJ l (fun _ => true) 0 = [] := rfl
  have hBn : bsJ l (fun _ => true) l.length = chB l := rfl
  have hin := chB_in l
  have HP := Lib.hid hpos
  have HB0 := Lib.hid hb0
  have HBN := Lib.hid hBn
  have HIN := Lib.hid hin
  clear hpos hb0 hBn hin
  unfold RCn_i jobIn Inst.ok; dsimp only; refine spec_of_body (tys := tys) 2 Tryz.func65 (by kernel_rfl) rfl tys_ok rfl (Nat.le_of_ble_eq_true rfl) (fun _ _ h => (by cases h)) fun F hP hm hC hrd => ?_; conv => whnf
  repeat first | refine lwp_seq fun K hK => ?_ | (with_reducible refine gA ?_; apply_assumption -exfalso -symm) | refine Stp.h ?_ | refine gF rfl ?_ | refine gG rfl ?_ | refine gM hC rfl sd ?_
  refine lwp_loop (fun k : Nat => ⟨[(5, i64 k), (4, .sl 2 (toI (bsJ l (fun _ => true) k)).length), (0, .sl 0 l.length)], [(2, .row 3 (toI (bsJ l (fun _ => true) k)).length 1 (.ints .i64 (toI (bsJ l (fun _ => true) k)))), (0, jbCh l 1), (1, fmCh l)], 3⟩) (fun k => k ≤ l.length) (fun k => l.length - k) 0 ⟨?_, sub_intro hm [(0, some 0), (1, some 1), (2, none)] rfl ?_⟩ ?_
  · exact Nat.zero_le _
  · rw [HB0.out]
    exact sd
  · rintro k hk
    have hkk : ((k : Int)).toNat = k := Int.toNat_natCast k
    repeat first | refine lwp_seq fun K hK => ?_ | (with_reducible refine gA ?_; apply_assumption -exfalso -symm) | refine Stp.h ?_ | refine gF rfl ?_ | refine gG rfl ?_ | refine gM hC rfl sd ?_
    refine lwp_condS hC rfl sd ?_ ?_ <;> intro hb
    · have hk2 : k < l.length := by omega
      clear hb
      have hbl := bsJ_len l (fun _ => true) k
      have hcl := chG_len l k
      have hon := bsJ_on (l := l) (p := fun _ => true) (k := k) rfl
      have HON := Lib.hid hon
      clear hon
      obtain ⟨B, hBe⟩ : ∃ B, bsJ l (fun _ => true) k = B := ⟨_, rfl⟩
      rw [hBe] at hbl HON
      rw [hBe]
      clear hBe
      have htl := toI_len B
      have htc := toI_len (chG l k)
      repeat first | refine lwp_seq fun K hK => ?_ | (with_reducible refine gA ?_; apply_assumption -exfalso -symm) | refine Stp.h ?_ | refine gF rfl ?_ | refine gG rfl ?_ | refine gM hC rfl sd ?_
      (refine lwp_region hC ⟨[], [], [(2, RCh_i l k [(0, some 0), (1, some 1)])]⟩ (told1 _ (by rw [hP]; exact (calls_cons (RCh_s l hl hln hrk (rk k + 1) k _ (by omega) hk2) calls_nil))) rfl ?_ ?_; rotate_left 1)
      · repeat first | refine lwp_seq fun K hK => ?_ | (with_reducible refine gA ?_; apply_assumption -exfalso -symm) | refine Stp.h ?_ | refine gF rfl ?_ | refine gG rfl ?_ | refine gM hC rfl sd ?_
        refine lwp_condS hC rfl sd ?_ ?_ <;> intro hb
        · have hgt : B.length < (chG l k).length := by omega
          have e := HON.out
          rw [if_pos hgt] at e
          have EE := Lib.hid e
          clear hb hgt e
          repeat first | refine lwp_seq fun K hK => ?_ | (with_reducible refine gA ?_; apply_assumption -exfalso -symm) | refine Stp.h ?_ | refine gF rfl ?_ | refine gG rfl ?_ | refine gM hC rfl sd ?_
          refine gA ⟨k + 1, ?_, ?_, sub_intro hm [(0, some 0), (1, some 1), (2, some 3)] rfl ?_⟩
          · omega
          · omega
          · rw [EE.out]
            exact sd
        · have hgt : ¬ B.length < (chG l k).length := by omega
          have e := HON.out
          rw [if_neg hgt] at e
          have EE := Lib.hid e
          clear hb hgt e
          repeat first | refine lwp_seq fun K hK => ?_ | (with_reducible refine gA ?_; apply_assumption -exfalso -symm) | refine Stp.h ?_ | refine gF rfl ?_ | refine gG rfl ?_ | refine gM hC rfl sd ?_
          refine gA ⟨k + 1, ?_, ?_, sub_intro hm [(0, some 0), (1, some 1), (2, some 2)] rfl ?_⟩
          · omega
          · omega
          · rw [EE.out]
            exact sd
      · exact sd
    · obtain rfl : k = l.length := by omega
      clear hb
      rw [HBN.out]
      have hbl := bsJ_len l (fun _ => true) l.length
      rw [HBN.out] at hbl
      have htl := toI_len (chB l)
      repeat first | refine lwp_seq fun K hK => ?_ | (with_reducible refine gA ?_; apply_assumption -exfalso -symm) | refine Stp.h ?_ | refine gF rfl ?_ | refine gG rfl ?_ | refine gM hC rfl sd ?_
      refine lwp_condS hC rfl sd ?_ ?_ <;> intro hb
      · have h0 : l.length = 0 := HP.out.1 (by omega)
        have hc0 : chS l = [] := by
          unfold chS
          rw [List.eq_nil_of_length_eq_zero (l := chB l) (by omega)]; rfl
        rw [hc0, if_pos h0]
        clear hb hc0
        repeat first | refine lwp_seq fun K hK => ?_ | (with_reducible refine gA ?_; apply_assumption -exfalso -symm) | refine Stp.h ?_ | refine gF rfl ?_ | refine gG rfl ?_ | refine gM hC rfl sd ?_
        (refine end_intro (by first | exact .inr rfl | exact .inl rfl) [(2, none)] rfl ?_)
        exact sd
      · have h0 : ¬ l.length = 0 := fun e => by have := HP.out.2 e; omega
        rw [if_neg h0]
        clear hb
        have hS : chS l = nmsJ l (chB l) := rfl
        obtain ⟨B, hBe⟩ : ∃ B, chB l = B := ⟨_, rfl⟩
        rw [hBe] at HIN hbl htl hS
        rw [hBe]
        have HS := Lib.hid hS
        clear hBe hS HBN HP
        repeat first | refine lwp_seq fun K hK => ?_ | (with_reducible refine gA ?_; apply_assumption -exfalso -symm) | refine Stp.h ?_ | refine gF rfl ?_ | refine gG rfl ?_ | refine gM hC rfl sd ?_
        refine lwp_loop (fun k : Nat => ⟨[(8, i64 k), (7, .sl 3 (nmsJ l (B.take k)).length), (4, .sl 2 (toI B).length), (0, .sl 0 l.length)], [(3, .row 9 (nmsJ l (B.take k)).length 1 (strC (nmsJ l (B.take k)))), (2, .row 3 (toI B).length 1 (.ints .i64 (toI B))), (0, jbCh l 1), (1, fmCh l)], 4⟩) (fun k => k ≤ B.length) (fun k => B.length - k) 0 ⟨?_, sub_intro hm [(0, some 0), (1, some 1), (2, some 2), (3, none)] rfl ?_⟩ ?_
        · exact Nat.zero_le _
        · exact sd
        · rintro k hk
          have hkk : ((k : Int)).toNat = k := Int.toNat_natCast k
          have hnl : (nmsJ l (B.take k)).length = k := by rw [nmsJ_len, List.length_take]; omega
          repeat first | refine lwp_seq fun K hK => ?_ | (with_reducible refine gA ?_; apply_assumption -exfalso -symm) | refine Stp.h ?_ | refine gF rfl ?_ | refine gG rfl ?_ | refine gM hC rfl sd ?_
          refine lwp_condS hC rfl sd ?_ ?_ <;> intro hb
          · have hk2 : k < B.length := by omega
            clear hb
            have hx : B.getD k 0 < l.length := by
              rw [List.getD_eq_getElem?_getD, List.getElem?_eq_getElem hk2]
              exact HIN.out _ (List.getElem_mem hk2)
            have hg := toI_getD B k
            have e : nmsJ l (B.take (k + 1)) = nmsJ l (B.take k) ++ [(l.getD (B.getD k 0) jbD).name] := by
              rw [take_snoc B 0 k hk2]; simp [nmsJ]
            have hcat := strC_snoc (nmsJ l (B.take k)) (l.getD (B.getD k 0) jbD).name
            rw [← e] at hcat
            obtain ⟨x, hxe⟩ : ∃ x, B.getD k 0 = x := ⟨_, rfl⟩
            rw [hxe] at hx hg e hcat
            have hxx : ((x : Int)).toNat = x := Int.toNat_natCast x
            have hnl2 : (nmsJ l (B.take (k + 1))).length = k + 1 := by rw [nmsJ_len, List.length_take]; omega
            have hstr : ∀ q : Nat, q < 1 * 1 → (([Value.string (l.getD x jbD).name] : List Value).getD (q % 1) undef).oneCell' = true := fun q _ => by rw [Nat.mod_one]; rfl
            clear hxe e
            repeat first | refine lwp_seq fun K hK => ?_ | (with_reducible refine gA ?_; apply_assumption -exfalso -symm) | refine Stp.h ?_ | refine gF rfl ?_ | refine gG rfl ?_
            (refine lwp_region hC ⟨[], [], []⟩ (told0 _ _) rfl ?_ ?_; rotate_left 1)
            · repeat first | refine lwp_seq fun K hK => ?_ | (with_reducible refine gA ?_; apply_assumption -exfalso -symm) | refine Stp.h ?_ | refine gF rfl ?_ | refine gG rfl ?_ | refine gM hC rfl sd ?_
              refine gA ⟨k + 1, ?_, ?_, sub_intro hm [(0, some 0), (1, some 1), (2, some 2), (3, some 5)] rfl ?_⟩
              · omega
              · omega
              · exact sd
            · rw [hkk, hg, hxx]
              exact sd
          · obtain rfl : k = B.length := by omega
            clear hb
            rw [List.take_length]
            repeat first | refine lwp_seq fun K hK => ?_ | (with_reducible refine gA ?_; apply_assumption -exfalso -symm) | refine Stp.h ?_ | refine gF rfl ?_ | refine gG rfl ?_ | refine gM hC rfl sd ?_
            (refine end_intro (by first | exact .inr rfl | exact .inl rfl) [(2, some 3)] rfl ?_)
            rw [HS.out, if_neg h0]
            exact sd

end Go.Proofs.YtccddhoeampdjaaGreatDoor
