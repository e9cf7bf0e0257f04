/- Chapter 9: the longest chain, the program's: what it calls. -/
import Derived.Test.YtlhgddgoblliaaaGreatDoorVi
set_option linter.unusedVariables false
set_option linter.unusedSimpArgs false
namespace Go.Proofs.YtlhgddgoblliaaaGreatDoor
open Go.RowKit Go.Sym

/-! The greatest of numbers, and where it is. -/
def eqI (x y : Int) : Bool := decide (x = y)
def IxZ_i (l : List Int) (x : Int) (σ : Ren) : Inst := { f := 75, hin := [(0, .ro l.length 1 (.ints .i64 l))], args := [.sl 0 l.length, i64 x], hout := [], ret := i64 (idxF (eqI x) l), σ := σ }
set_option maxRecDepth 20000 in
theorem IxZ_s (l : List Int) (x : Int) (σ : Ren) (hl : l.length ≤ 1000000) : (IxZ_i l x σ).ok Tryz.prog := by
  unfold IxZ_i Inst.ok; dsimp only; refine spec_of_body (tys := tys) 1 Tryz.func75 (by kernel_rfl) rfl tys_ok rfl (Nat.le_of_ble_eq_true rfl) (fun _ _ h => (by cases h)) fun F hP hm hC hrd => ?_; conv => whnf
  repeat first | refine lwp_seq fun K hK => ?_ | (with_reducible refine gA ?_; apply_assumption -exfalso -symm) | refine Stp.h ?_ | refine gF rfl ?_ | refine gG rfl ?_ | refine gM hC rfl sd ?_
  refine lwp_loop (fun k : Nat => ⟨[(8, i64 k), (7, i64 l.length), (0, .sl 0 l.length), (1, i64 x)], [(0, .ro l.length 1 (.ints .i64 l))], 1⟩) (fun k => k ≤ l.length ∧ ∀ i : Nat, i < k → eqI x (l.getD i 0) = false) (fun k => l.length - k) 0 ⟨?_, sub_intro hm [(0, some 0)] rfl ?_⟩ ?_
  · exact ⟨Nat.zero_le _, fun i hi => absurd hi (Nat.not_lt_zero _)⟩
  · exact sd
  · rintro k ⟨hk, hf⟩
    have hkk : ((k : Int)).toNat = k := Int.toNat_natCast k
    have HF := Lib.hid hf
    clear hf
    repeat first | refine lwp_seq fun K hK => ?_ | (with_reducible refine gA ?_; apply_assumption -exfalso -symm) | refine Stp.h ?_ | refine gF rfl ?_ | refine gG rfl ?_ | refine gM hC rfl sd ?_
    refine lwp_condS hC rfl sd ?_ ?_ <;> intro hb
    · have hk2 : k < l.length := by omega
      clear hb
      repeat first | refine lwp_seq fun K hK => ?_ | (with_reducible refine gA ?_; apply_assumption -exfalso -symm) | refine Stp.h ?_ | refine gF rfl ?_ | refine gG rfl ?_ | refine gM hC rfl ⟨⟩ ?_
      (refine lwp_region hC ⟨[], [], []⟩ (told0 _ _) rfl ?_ ?_; rotate_left 1)
      · rw [hkk]
        repeat first | refine lwp_seq fun K hK => ?_ | (with_reducible refine gA ?_; apply_assumption -exfalso -symm) | refine Stp.h ?_ | refine gF rfl ?_ | refine gG rfl ?_
        refine lwp_condS hC rfl sd ?_ ?_ <;> intro hb
        · have hE := idxF_hit hk2 (show eqI x (l.getD k 0) = true from decide_eq_true hb) HF.out
          clear hb
          repeat first | refine lwp_seq fun K hK => ?_ | (with_reducible refine gA ?_; apply_assumption -exfalso -symm) | refine Stp.h ?_ | refine gF rfl ?_ | refine gG rfl ?_ | refine gM hC rfl sd ?_
          (refine end_intro (by first | exact .inr rfl | exact .inl rfl) [] rfl ?_)
          rw [hE]
          exact sd
        · have hne : eqI x (l.getD k 0) = false := decide_eq_false hb
          have HN := Lib.hid hne
          clear hb hne
          repeat first | refine lwp_seq fun K hK => ?_ | (with_reducible refine gA ?_; apply_assumption -exfalso -symm) | refine Stp.h ?_ | refine gF rfl ?_ | refine gG rfl ?_ | refine gM hC rfl sd ?_
          refine gA ⟨k + 1, ?_, ?_, sub_intro hm [(0, some 0)] rfl ?_⟩
          · refine ⟨hk2, fun i hi => ?_⟩
            by_cases e : i = k
            · subst e; exact HN.out
            · exact HF.out i (by omega)
          · omega
          · exact sd
      · rw [hkk]
        exact sd
    · have hk3 : k = l.length := by omega
      subst hk3
      have hE := idxF_none HF.out
      repeat first | refine lwp_seq fun K hK => ?_ | (with_reducible refine gA ?_; apply_assumption -exfalso -symm) | refine Stp.h ?_ | refine gF rfl ?_ | refine gG rfl ?_ | refine gM hC rfl sd ?_
      (refine end_intro (by first | exact .inr rfl | exact .inl rfl) [] rfl ?_)
      rw [hE]
      exact sd
abbrev mxV (V : List Nat) (k : Nat) : Nat := mxF (fun j => V.getD j 0) (fun _ => true) k
theorem mxV_step (V : List Nat) (k : Nat) : (mxV V (k + 1) : Int) = if (mxV V k : Int) < (V.getD k 0 : Nat) then ((V.getD k 0 : Nat) : Int) else mxV V k := by
  have : mxV V (k + 1) = max (mxV V k) (V.getD k 0) := if_pos rfl
  rw [this]
  split <;> omega
def MxZ_i (V : List Nat) (σ : Ren) : Inst := { f := 61, hin := [(0, .ro V.length 1 (.ints .i64 (toI V)))], args := [.sl 0 V.length], hout := [], ret := i64 (mxV V V.length), σ := σ }
set_option maxRecDepth 20000 in
theorem MxZ_s (V : List Nat) (σ : Ren) (hl : V.length ≤ 1000000) (h0 : 0 < V.length) (hV : ∀ k, V.getD k 0 ≤ 1000000) : (MxZ_i V σ).ok Tryz.prog := by
  have htl := toI_len V
  have h1 : (mxV V 1 : Int) = (V.getD 0 0 : Nat) := by
    show ((max 0 (V.getD 0 0) : Nat) : Int) = _
    omega
  unfold MxZ_i Inst.ok; dsimp only; refine spec_of_body (tys := tys) 1 Tryz.func61 (by kernel_rfl) rfl tys_ok rfl (Nat.le_of_ble_eq_true rfl) (fun _ _ h => (by cases h)) fun F hP hm hC hrd => ?_; conv => whnf
  repeat first | refine lwp_seq fun K hK => ?_ | (with_reducible refine gA ?_; apply_assumption -exfalso -symm) | refine Stp.h ?_ | refine gF rfl ?_ | refine gG rfl ?_ | refine gM hC rfl sd ?_
  refine lwp_condS hC rfl sd ?_ ?_ <;> intro hb
  · omega
  · clear hb
    have hg0 := toI_getD V 0
    repeat first | refine lwp_seq fun K hK => ?_ | (with_reducible refine gA ?_; apply_assumption -exfalso -symm) | refine Stp.h ?_ | refine gF rfl ?_ | refine gG rfl ?_
    (refine lwp_region hC ⟨[], [], []⟩ (told0 _ _) rfl ?_ ?_; rotate_left 1)
    · rw [show ((0 : Int)).toNat = 0 from rfl, hg0, ← h1]
      clear hg0
      repeat first | refine lwp_seq fun K hK => ?_ | (with_reducible refine gA ?_; apply_assumption -exfalso -symm) | refine Stp.h ?_ | refine gF rfl ?_ | refine gG rfl ?_ | refine gM hC rfl sd ?_
      refine lwp_loop (fun k : Nat => ⟨[(4, i64 k), (3, i64 (mxV V k)), (0, .sl 0 V.length)], [(0, .ro V.length 1 (.ints .i64 (toI V)))], 1⟩) (fun k => k ≤ V.length) (fun k => V.length - k) 1 ⟨?_, sub_intro hm [(0, some 0)] rfl ?_⟩ ?_
      · exact h0
      · exact sd
      · rintro k hk
        have hkk : ((k : Int)).toNat = k := Int.toNat_natCast k
        repeat first | refine lwp_seq fun K hK => ?_ | (with_reducible refine gA ?_; apply_assumption -exfalso -symm) | refine Stp.h ?_ | refine gF rfl ?_ | refine gG rfl ?_ | refine gM hC rfl sd ?_
        refine lwp_condS hC rfl sd ?_ ?_ <;> intro hb
        · have hk2 : k < V.length := by omega
          have hg := toI_getD V k
          have hst := mxV_step V k
          clear hb
          repeat first | refine lwp_seq fun K hK => ?_ | (with_reducible refine gA ?_; apply_assumption -exfalso -symm) | refine Stp.h ?_ | refine gF rfl ?_ | refine gG rfl ?_
          (refine lwp_region hC ⟨[], [], []⟩ (told0 _ _) rfl ?_ ?_; rotate_left 1)
          · rw [hkk, hg]
            repeat first | refine lwp_seq fun K hK => ?_ | (with_reducible refine gA ?_; apply_assumption -exfalso -symm) | refine Stp.h ?_ | refine gF rfl ?_ | refine gG rfl ?_ | refine gM hC rfl sd ?_
            refine gA ⟨k + 1, ?_, ?_, sub_intro hm [(0, some 0)] rfl ?_⟩
            · omega
            · omega
            · rw [hst]
              exact sd
          · rw [hkk]
            exact sd
        · obtain rfl : k = V.length := by omega
          clear hb
          repeat first | refine lwp_seq fun K hK => ?_ | (with_reducible refine gA ?_; apply_assumption -exfalso -symm) | refine Stp.h ?_ | refine gF rfl ?_ | refine gG rfl ?_ | refine gM hC rfl sd ?_
          (refine end_intro (by first | exact .inr rfl | exact .inl rfl) [] rfl ?_)
          exact ⟨rfl, trivial⟩
    · exact sd

/-! A job by its name. -/
def nmIn (l : List Jb) (j : Nat) : List (Nat × Chunk) := jobIn l ++ [(2, .rb 131 [Sb (l.getD j jbD).name, Sb (l.getD j jbD).kind, .tb 1 (.row j (lnJ l j))])]
def Ch2_i (l : List Jb) (j k : Nat) (σ : Ren) : Inst := { f := 78, hin := nmIn l j, args := [jbA 1 l k, .ptr 2 0 0 0], hout := [], ret := bl (nmB (l.getD j jbD).name (l.getD k jbD)), σ := σ }
theorem Ch2_s (l : List Jb) (j k : Nat) (σ : Ren) : (Ch2_i l j k σ).ok Tryz.prog := by
  unfold Ch2_i nmIn jobIn Inst.ok; dsimp only; refine spec_of_body (tys := tys) 3 Tryz.func78 (by kernel_rfl) rfl tys_ok rfl (Nat.le_of_ble_eq_true rfl) (fun _ _ h => (by cases h)) fun F hP hm hC hrd => ?_; conv => whnf
  repeat first | refine lwp_seq fun K hK => ?_ | (with_reducible refine gA ?_; apply_assumption -exfalso -symm) | refine Stp.h ?_ | refine gF rfl ?_ | refine gG rfl ?_ | refine gM hC rfl sd ?_
  (refine end_intro (by first | exact .inr rfl | exact .inl rfl) [] rfl ?_)
  exact ⟨rfl, trivial⟩
def Ix2_i (l : List Jb) (j : Nat) (σ : Ren) : Inst := { f := 76, hin := nmIn l j, args := [.sl 0 l.length, .fn 78 [] [.ptr 2 0 0 0]], hout := [], ret := i64 (fnd l (l.getD j jbD).name), σ := σ }
set_option maxRecDepth 20000 in
theorem Ix2_s (l : List Jb) (j : Nat) (σ : Ren) (hl : l.length ≤ 1000000) : (Ix2_i l j σ).ok Tryz.prog := by
  unfold Ix2_i nmIn jobIn Inst.ok; dsimp only; refine spec_of_body (tys := tys) 3 Tryz.func76 (by kernel_rfl) rfl tys_ok rfl (Nat.le_of_ble_eq_true rfl) (fun _ _ h => (by cases h)) fun F hP hm hC hrd => ?_; conv => whnf
  repeat first | refine lwp_seq fun K hK => ?_ | (with_reducible refine gA ?_; apply_assumption -exfalso -symm) | refine Stp.h ?_ | refine gF rfl ?_ | refine gG rfl ?_ | refine gM hC rfl sd ?_
  refine lwp_loop (fun k : Nat => ⟨[(8, i64 k), (7, i64 l.length), (0, .sl 0 l.length), (1, .fn 78 [] [.ptr 2 0 0 0])], [(0, jbCh l 1), (1, fmCh l), (2, .rb 131 [Sb (l.getD j jbD).name, Sb (l.getD j jbD).kind, .tb 1 (.row j (lnJ l j))])], 3⟩) (fun k => k ≤ l.length ∧ ∀ i : Nat, i < k → nmB (l.getD j jbD).name (l.getD i jbD) = false) (fun k => l.length - k) 0 ⟨?_, sub_intro hm [(0, some 0), (1, some 1), (2, some 2)] rfl ?_⟩ ?_
  · exact ⟨Nat.zero_le _, fun i hi => absurd hi (Nat.not_lt_zero _)⟩
  · exact sd
  · rintro k ⟨hk, hf⟩
    have hkk : ((k : Int)).toNat = k := Int.toNat_natCast k
    have HF := Lib.hid hf
    clear hf
    repeat first | refine lwp_seq fun K hK => ?_ | (with_reducible refine gA ?_; apply_assumption -exfalso -symm) | refine Stp.h ?_ | refine gF rfl ?_ | refine gG rfl ?_ | refine gM hC rfl sd ?_
    refine lwp_condS hC rfl sd ?_ ?_ <;> intro hb
    · have hk2 : k < l.length := by omega
      clear hb
      repeat first | refine lwp_seq fun K hK => ?_ | (with_reducible refine gA ?_; apply_assumption -exfalso -symm) | refine Stp.h ?_ | refine gF rfl ?_ | refine gG rfl ?_ | refine gM hC rfl sd ?_
      (refine lwp_region hC ⟨[], [], [(5, Ch2_i l j k [(0, some 0), (1, some 1), (2, some 2)])]⟩ (told1 _ (by rw [hP]; exact (calls_cons (Ch2_s _ _ _ _) calls_nil))) rfl ?_ ?_; rotate_left 1)
      · repeat first | refine lwp_seq fun K hK => ?_ | (with_reducible refine gA ?_; apply_assumption -exfalso -symm) | refine Stp.h ?_ | refine gF rfl ?_ | refine gG rfl ?_ | refine gM hC rfl sd ?_
        refine lwp_condS hC rfl sd ?_ ?_ <;> intro hb
        · have hE : fnd l (l.getD j jbD).name = k := idxF_hit hk2 hb HF.out
          clear hb
          repeat first | refine lwp_seq fun K hK => ?_ | (with_reducible refine gA ?_; apply_assumption -exfalso -symm) | refine Stp.h ?_ | refine gF rfl ?_ | refine gG rfl ?_ | refine gM hC rfl sd ?_
          (refine end_intro (by first | exact .inr rfl | exact .inl rfl) [] rfl ?_)
          rw [hE]
          exact sd
        · have HN := Lib.hid hb
          clear hb
          repeat first | refine lwp_seq fun K hK => ?_ | (with_reducible refine gA ?_; apply_assumption -exfalso -symm) | refine Stp.h ?_ | refine gF rfl ?_ | refine gG rfl ?_ | refine gM hC rfl sd ?_
          refine gA ⟨k + 1, ?_, ?_, sub_intro hm [(0, some 0), (1, some 1), (2, some 2)] rfl ?_⟩
          · refine ⟨hk2, fun i hi => ?_⟩
            by_cases e : i = k
            · subst e; exact HN.out
            · exact HF.out i (by omega)
          · omega
          · exact sd
      · rw [hkk]
        exact sd
    · have hk3 : k = l.length := by omega
      subst hk3
      have hE : fnd l (l.getD j jbD).name = -1 := idxF_none HF.out
      repeat first | refine lwp_seq fun K hK => ?_ | (with_reducible refine gA ?_; apply_assumption -exfalso -symm) | refine Stp.h ?_ | refine gF rfl ?_ | refine gG rfl ?_ | refine gM hC rfl sd ?_
      (refine end_intro (by first | exact .inr rfl | exact .inl rfl) [] rfl ?_)
      rw [hE]
      exact sd

/-! The job that a chain goes on with. -/
def mJ (l : List Jb) : List Nat := (List.range l.length).map (mF l.length (edJ l) l.length)
theorem mJ_len (l : List Jb) : (mJ l).length = l.length := by simp [mJ]
theorem mJ_at (l : List Jb) {k : Nat} (hk : k < l.length) : (mJ l).getD k 0 = mF l.length (edJ l) l.length k := by simp [mJ, List.getD, hk]
theorem mJ_le (l : List Jb) (k : Nat) : (mJ l).getD k 0 ≤ l.length := by
  by_cases hk : k < l.length
  · rw [mJ_at l hk]; exact mF_le _ _
  · rw [List.getD_eq_getElem?_getD, List.getElem?_eq_none (by rw [mJ_len]; omega)]; exact Nat.zero_le _
def nxB (l : List Jb) (a k : Nat) : Bool := bif edJ l a k then decide (((mJ l).getD k 0 : Int) = ((mJ l).getD a 0 : Int) - 1) else false
def chIn (l : List Jb) (a : Nat) : List (Nat × Chunk) := [(0, jbCh l 1), (1, fmCh l), (2, .rb 33 [.sl 0 l.length]), (3, .rb 3 [i64 (a : Int)]), (4, .rb 23 [.sl 5 l.length]), (5, .ro l.length 1 (.ints .i64 (toI (mJ l))))]
def Ch1_i (l : List Jb) (a k : Nat) (σ : Ren) : Inst := { f := 77, hin := chIn l a, args := [jbA 1 l k, .ptr 2 0 0 0, .ptr 3 0 0 0, .ptr 4 0 0 0], hout := [], ret := bl (nxB l a k), σ := σ }
set_option maxRecDepth 20000 in
theorem Ch1_s (l : List Jb) (a k : Nat) (σ : Ren) (hl : l.length ≤ 1000) (hln : ∀ k, lnJ l k ≤ 1000) (ha : a < l.length) (hk : k < l.length) (hf : fnd l (l.getD k jbD).name = k) : (Ch1_i l a k σ).ok Tryz.prog := by
  have haa : ((a : Int)).toNat = a := Int.toNat_natCast a
  have hkk : ((k : Int)).toNat = k := Int.toNat_natCast k
  have htl := toI_len (mJ l)
  have hml := mJ_len l
  have hga := toI_getD (mJ l) a
  have hgk := toI_getD (mJ l) k
  have hla := mJ_le l a
  have hlk := hln k
  have hix := Ix2_s l k [(0, some 0), (1, some 1), (2, some 6)] (by omega)
  unfold Ix2_i at hix
  rw [hf] at hix
  have HIX := Lib.hid hix
  have hct := CtT_s l k (l.getD a jbD).name [(0, some 1)] hk (by omega)
  unfold CtT_i at hct
  obtain ⟨e, hee⟩ : ∃ e, edJ l a k = e := ⟨_, rfl⟩
  rw [show memS (l.getD k jbD).af (l.getD a jbD).name = e from hee] at hct
  have HCT := Lib.hid hct
  have hnx : nxB l a k = bif e then decide (((mJ l).getD k 0 : Int) = ((mJ l).getD a 0 : Int) - 1) else false := by unfold nxB; rw [hee]
  clear hix hct hf hee
  unfold Ch1_i
  rw [hnx]
  clear hnx
  unfold chIn Inst.ok; dsimp only; refine spec_of_body (tys := tys) 6 Tryz.func77 (by kernel_rfl) rfl tys_ok rfl (Nat.le_of_ble_eq_true rfl) (fun _ _ h => (by cases h)) fun F hP hm hC hrd => ?_; conv => whnf
  repeat first | refine lwp_seq fun K hK => ?_ | (with_reducible refine gA ?_; apply_assumption -exfalso -symm) | refine Stp.h ?_ | refine gF rfl ?_ | refine gG rfl ?_ | refine gM hC rfl sd ?_
  cases e with
  | false =>
    (refine lwp_drawn2 hC (by rw [hP]; exact mixed) ⟨[(8, { b := some false }), (9, { g := some false }), (10, { g := some false }), (11, { g := some false }), (12, { g := some false }), (13, { g := some false }), (14, { g := some false }), (15, { g := some false }), (16, { g := some false }), (17, { g := some false }), (18, { g := some false }), (19, { g := some false }), (20, { g := some false })], [], [(7, { f := 72, hin := [(0, fmCh l)], args := [.tb 0 (.row k (lnJ l k)), Sb (l.getD a jbD).name], hout := [], ret := bl false, σ := [(0, some 1)] })]⟩ (told1 _ (by rw [hP]; exact (calls_cons (HCT.out) calls_nil))) [0, 1, 0, 0, 12, 28, 60, 127, 255, 511, 511, 511, 3583, 8191, 16383, 511, 511, 98815, 229887, 492031, 1048575, 2097151, 4194303] 23 0 rfl ?_ ?_; rotate_left 1)
    · repeat first | refine lwp_seq fun K hK => ?_ | (with_reducible refine gA ?_; apply_assumption -exfalso -symm) | refine Stp.h ?_ | refine gF rfl ?_ | refine gG rfl ?_ | refine gM hC rfl sd ?_
      (refine end_intro (by first | exact .inr rfl | exact .inl rfl) [] rfl ?_)
      exact ⟨rfl, trivial⟩
    · rw [haa]
      exact sd
  | true =>
    (refine lwp_drawn2 hC (by rw [hP]; exact mixed) ⟨[(8, { b := some true })], [], [(7, { f := 72, hin := [(0, fmCh l)], args := [.tb 0 (.row k (lnJ l k)), Sb (l.getD a jbD).name], hout := [], ret := bl true, σ := [(0, some 1)] }), (12, { f := 76, hin := nmIn l k, args := [.sl 0 l.length, .fn 78 [] [.ptr 2 0 0 0]], hout := [], ret := i64 (k : Int), σ := [(0, some 0), (1, some 1), (2, some 6)] })]⟩ (told1 _ (by rw [hP]; exact (calls_cons (HCT.out) (calls_cons (HIX.out) calls_nil)))) [0, 1, 0, 0, 12, 28, 60, 127, 255, 511, 511, 511, 3583, 8191, 16383, 511, 511, 98815, 229887, 492031, 1048575, 2097151, 4194303] 23 0 rfl ?_ ?_; rotate_left 1)
    · rw [haa, hkk, hga, hgk]
      repeat first | refine lwp_seq fun K hK => ?_ | (with_reducible refine gA ?_; apply_assumption -exfalso -symm) | refine Stp.h ?_ | refine gF rfl ?_ | refine gG rfl ?_ | refine gM hC rfl sd ?_
      (refine end_intro (by first | exact .inr rfl | exact .inl rfl) [] rfl ?_)
      exact ⟨rfl, trivial⟩
    · rw [haa, hkk, hga]
      exact sd

end Go.Proofs.YtlhgddgoblliaaaGreatDoor
