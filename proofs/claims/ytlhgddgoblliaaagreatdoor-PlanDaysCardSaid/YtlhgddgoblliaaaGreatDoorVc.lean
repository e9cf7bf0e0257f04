/- Chapter 9: jobs: words found, places of names, what a job needs. -/
import Derived.Test.YtlhgddgoblliaaaGreatDoorVb
set_option linter.unusedVariables false
set_option linter.unusedSimpArgs false
namespace Go.Proofs.YtlhgddgoblliaaaGreatDoor
open Go.RowKit Go.Sym

theorem memS_iff {l : List ByteArray} {s : ByteArray} : memS l s = true ↔ s ∈ l := by
  unfold memS
  rw [List.any_eq_true]
  exact ⟨fun ⟨x, h1, h2⟩ => by rw [of_decide_eq_true h2]; exact h1, fun h => ⟨s, h, decide_eq_true rfl⟩⟩
theorem memS_hit {l : List ByteArray} {s : ByteArray} {k : Nat} (hk : k < l.length) (h : l.getD k ByteArray.empty = s) : memS l s = true := by
  rw [List.getD_eq_getElem?_getD, List.getElem?_eq_getElem hk] at h
  exact memS_iff.2 (by rw [← h]; exact List.getElem_mem hk)
theorem memS_no {l : List ByteArray} {s : ByteArray} (h : ∀ k, k < l.length → l.getD k ByteArray.empty ≠ s) : memS l s = false := by
  cases e : memS l s with
  | false => rfl
  | true =>
    obtain ⟨k, hk, rfl⟩ := List.getElem_of_mem (memS_iff.1 e)
    have := h k hk
    rw [List.getD_eq_getElem?_getD, List.getElem?_eq_getElem hk] at this
    exact absurd rfl this
/-! Words in a list. -/
def eqS (s x : ByteArray) : Bool := decide (s = x)
def IxS_i (l : List ByteArray) (s : ByteArray) (σ : Ren) : Inst := { f := 130, hin := [(0, .ro l.length 1 (strC l))], args := [.sl 0 l.length, Sb s], hout := [], ret := i64 (idxF (eqS s) l), σ := σ }
set_option maxRecDepth 20000 in
theorem IxS_s (l : List ByteArray) (s : ByteArray) (σ : Ren) (hl : l.length ≤ 1000000) : (IxS_i l s σ).ok Tryz.prog := by
  unfold IxS_i Inst.ok; dsimp only; refine spec_of_body (tys := tys) 1 Tryz.func130 (by kernel_rfl) rfl tys_ok rfl (Nat.le_of_ble_eq_true rfl) (fun _ _ h => (by cases h)) fun F hP hm hC hrd => ?_; conv => whnf
  repeat first | refine lwp_seq fun K hK => ?_ | (with_reducible refine gA ?_; apply_assumption -exfalso -symm) | refine Stp.h ?_ | refine gF rfl ?_ | refine gG rfl ?_ | refine gM hC rfl sd ?_
  refine lwp_loop (fun k : Nat => ⟨[(8, i64 k), (7, i64 l.length), (0, .sl 0 l.length), (1, Sb s)], [(0, .ro l.length 1 (strC l))], 1⟩) (fun k => k ≤ l.length ∧ ∀ i : Nat, i < k → eqS s (l.getD i ByteArray.empty) = false) (fun k => l.length - k) 0 ⟨?_, sub_intro hm [(0, some 0)] rfl ?_⟩ ?_
  · exact ⟨Nat.zero_le _, fun i hi => absurd hi (Nat.not_lt_zero _)⟩
  · exact sd
  · rintro k ⟨hk, hf⟩
    have hkk : ((k : Int)).toNat = k := Int.toNat_natCast k
    have HF := Lib.hid hf
    clear hf
    repeat first | refine lwp_seq fun K hK => ?_ | (with_reducible refine gA ?_; apply_assumption -exfalso -symm) | refine Stp.h ?_ | refine gF rfl ?_ | refine gG rfl ?_ | refine gM hC rfl sd ?_
    refine lwp_condS hC rfl sd ?_ ?_ <;> intro hb
    · have hk2 : k < l.length := by omega
      clear hb
      repeat first | refine lwp_seq fun K hK => ?_ | (with_reducible refine gA ?_; apply_assumption -exfalso -symm) | refine Stp.h ?_ | refine gF rfl ?_ | refine gG rfl ?_ | refine gM hC rfl ⟨⟩ ?_
      (refine lwp_region hC ⟨[], [], []⟩ (told0 _ _) rfl ?_ ?_; rotate_left 1)
      · rw [hkk]
        repeat first | refine lwp_seq fun K hK => ?_ | (with_reducible refine gA ?_; apply_assumption -exfalso -symm) | refine Stp.h ?_ | refine gF rfl ?_ | refine gG rfl ?_
        refine lwp_condS hC rfl sd ?_ ?_ <;> intro hb
        · have hE := idxF_hit hk2 (show eqS s (l.getD k ByteArray.empty) = true from decide_eq_true hb) HF.out
          clear hb
          repeat first | refine lwp_seq fun K hK => ?_ | (with_reducible refine gA ?_; apply_assumption -exfalso -symm) | refine Stp.h ?_ | refine gF rfl ?_ | refine gG rfl ?_ | refine gM hC rfl sd ?_
          (refine end_intro (by first | exact .inr rfl | exact .inl rfl) [] rfl ?_)
          rw [hE]
          exact sd
        · have hne : eqS s (l.getD k ByteArray.empty) = false := decide_eq_false hb
          have HN := Lib.hid hne
          clear hb hne
          repeat first | refine lwp_seq fun K hK => ?_ | (with_reducible refine gA ?_; apply_assumption -exfalso -symm) | refine Stp.h ?_ | refine gF rfl ?_ | refine gG rfl ?_ | refine gM hC rfl sd ?_
          refine gA ⟨k + 1, ?_, ?_, sub_intro hm [(0, some 0)] rfl ?_⟩
          · refine ⟨hk2, fun i hi => ?_⟩
            by_cases e : i = k
            · subst e; exact HN.out
            · exact HF.out i (by omega)
          · omega
          · exact sd
      · rw [hkk]
        exact sd
    · have hk3 : k = l.length := by omega
      subst hk3
      have hE := idxF_none HF.out
      repeat first | refine lwp_seq fun K hK => ?_ | (with_reducible refine gA ?_; apply_assumption -exfalso -symm) | refine Stp.h ?_ | refine gF rfl ?_ | refine gG rfl ?_ | refine gM hC rfl sd ?_
      (refine end_intro (by first | exact .inr rfl | exact .inl rfl) [] rfl ?_)
      rw [hE]
      exact sd
def CtS_i (l : List ByteArray) (s : ByteArray) (σ : Ren) : Inst := { f := 72, hin := [(0, .ro l.length 1 (strC l))], args := [.sl 0 l.length, Sb s], hout := [], ret := bl (memS l s), σ := σ }
set_option maxRecDepth 20000 in
theorem CtS_s (l : List ByteArray) (s : ByteArray) (σ : Ren) (hl : l.length ≤ 1000000) : (CtS_i l s σ).ok Tryz.prog := by
  have hsg : decide (idxF (eqS s) l ≥ 0) = memS l s := idxF_sign (eqS s) l
  unfold CtS_i Inst.ok; dsimp only; refine spec_of_body (tys := tys) 1 Tryz.func72 (by kernel_rfl) rfl tys_ok rfl (Nat.le_of_ble_eq_true rfl) (fun _ _ h => (by cases h)) fun F hP hm hC hrd => ?_; conv => whnf
  repeat first | refine lwp_seq fun K hK => ?_ | (with_reducible refine gA ?_; apply_assumption -exfalso -symm) | refine Stp.h ?_ | refine gF rfl ?_ | refine gG rfl ?_ | refine gM hC rfl ⟨⟩ ?_
  (refine lwp_region hC ⟨[], [], [(2, IxS_i l s [(0, some 0)])]⟩ (told1 _ (by rw [hP]; exact (calls_cons (IxS_s _ _ _ hl) calls_nil))) rfl ?_ ?_; rotate_left 1)
  · repeat first | refine lwp_seq fun K hK => ?_ | (with_reducible refine gA ?_; apply_assumption -exfalso -symm) | refine Stp.h ?_ | refine gF rfl ?_ | refine gG rfl ?_ | refine gM hC rfl sd ?_
    (refine end_intro (by first | exact .inr rfl | exact .inl rfl) [] rfl ?_)
    refine ⟨?_, trivial⟩
    exact hsg.symm
  · exact sd
def IxT_i (l : List Jb) (j : Nat) (s : ByteArray) (σ : Ren) : Inst := { f := 130, hin := [(0, fmCh l)], args := [.tb 0 (.row j (lnJ l j)), Sb s], hout := [], ret := i64 (idxF (eqS s) (l.getD j jbD).af), σ := σ }
set_option maxRecDepth 20000 in
theorem IxT_s (l : List Jb) (j : Nat) (s : ByteArray) (σ : Ren) (hj : j < l.length) (hl : lnJ l j ≤ 1000000) : (IxT_i l j s σ).ok Tryz.prog := by
  unfold IxT_i Inst.ok; dsimp only; refine spec_of_body (tys := tys) 1 Tryz.func130 (by kernel_rfl) rfl tys_ok rfl (Nat.le_of_ble_eq_true rfl) (fun _ _ h => (by cases h)) fun F hP hm hC hrd => ?_; conv => whnf
  repeat first | refine lwp_seq fun K hK => ?_ | (with_reducible refine gA ?_; apply_assumption -exfalso -symm) | refine Stp.h ?_ | refine gF rfl ?_ | refine gG rfl ?_ | refine gM hC rfl sd ?_
  refine lwp_loop (fun k : Nat => ⟨[(8, i64 k), (7, i64 (lnJ l j)), (0, .tb 0 (.row j (lnJ l j))), (1, Sb s)], [(0, fmCh l)], 1⟩) (fun k => k ≤ lnJ l j ∧ ∀ i : Nat, i < k → eqS s (afJ l j i) = false) (fun k => lnJ l j - k) 0 ⟨?_, sub_intro hm [(0, some 0)] rfl ?_⟩ ?_
  · exact ⟨Nat.zero_le _, fun i hi => absurd hi (Nat.not_lt_zero _)⟩
  · exact sd
  · rintro k ⟨hk, hf⟩
    have hkk : ((k : Int)).toNat = k := Int.toNat_natCast k
    have HF := Lib.hid hf
    clear hf
    repeat first | refine lwp_seq fun K hK => ?_ | (with_reducible refine gA ?_; apply_assumption -exfalso -symm) | refine Stp.h ?_ | refine gF rfl ?_ | refine gG rfl ?_ | refine gM hC rfl sd ?_
    refine lwp_condS hC rfl sd ?_ ?_ <;> intro hb
    · have hk2 : k < lnJ l j := by omega
      clear hb
      repeat first | refine lwp_seq fun K hK => ?_ | (with_reducible refine gA ?_; apply_assumption -exfalso -symm) | refine Stp.h ?_ | refine gF rfl ?_ | refine gG rfl ?_ | refine gM hC rfl ⟨⟩ ?_
      (refine lwp_region hC ⟨[], [], []⟩ (told0 _ _) rfl ?_ ?_; rotate_left 1)
      · rw [hkk]
        repeat first | refine lwp_seq fun K hK => ?_ | (with_reducible refine gA ?_; apply_assumption -exfalso -symm) | refine Stp.h ?_ | refine gF rfl ?_ | refine gG rfl ?_
        refine lwp_condS hC rfl sd ?_ ?_ <;> intro hb
        · have hE := idxF_hit (d := ByteArray.empty) hk2 (show eqS s (afJ l j k) = true from decide_eq_true hb) HF.out
          clear hb
          repeat first | refine lwp_seq fun K hK => ?_ | (with_reducible refine gA ?_; apply_assumption -exfalso -symm) | refine Stp.h ?_ | refine gF rfl ?_ | refine gG rfl ?_ | refine gM hC rfl sd ?_
          (refine end_intro (by first | exact .inr rfl | exact .inl rfl) [] rfl ?_)
          rw [hE]
          exact sd
        · have hne : eqS s (afJ l j k) = false := decide_eq_false hb
          have HN := Lib.hid hne
          clear hb hne
          repeat first | refine lwp_seq fun K hK => ?_ | (with_reducible refine gA ?_; apply_assumption -exfalso -symm) | refine Stp.h ?_ | refine gF rfl ?_ | refine gG rfl ?_ | refine gM hC rfl sd ?_
          refine gA ⟨k + 1, ?_, ?_, sub_intro hm [(0, some 0)] rfl ?_⟩
          · refine ⟨hk2, fun i hi => ?_⟩
            by_cases e : i = k
            · subst e; exact HN.out
            · exact HF.out i (by omega)
          · omega
          · exact sd
      · rw [hkk]
        exact sd
    · have hk3 : k = lnJ l j := by omega
      subst hk3
      have hE := idxF_none (d := ByteArray.empty) HF.out
      repeat first | refine lwp_seq fun K hK => ?_ | (with_reducible refine gA ?_; apply_assumption -exfalso -symm) | refine Stp.h ?_ | refine gF rfl ?_ | refine gG rfl ?_ | refine gM hC rfl sd ?_
      (refine end_intro (by first | exact .inr rfl | exact .inl rfl) [] rfl ?_)
      rw [hE]
      exact sd
def CtT_i (l : List Jb) (j : Nat) (s : ByteArray) (σ : Ren) : Inst := { f := 72, hin := [(0, fmCh l)], args := [.tb 0 (.row j (lnJ l j)), Sb s], hout := [], ret := bl (memS (l.getD j jbD).af s), σ := σ }
set_option maxRecDepth 20000 in
theorem CtT_s (l : List Jb) (j : Nat) (s : ByteArray) (σ : Ren) (hj : j < l.length) (hl : lnJ l j ≤ 1000000) : (CtT_i l j s σ).ok Tryz.prog := by
  have hsg : decide (idxF (eqS s) (l.getD j jbD).af ≥ 0) = memS (l.getD j jbD).af s := idxF_sign (eqS s) _
  unfold CtT_i Inst.ok; dsimp only; refine spec_of_body (tys := tys) 1 Tryz.func72 (by kernel_rfl) rfl tys_ok rfl (Nat.le_of_ble_eq_true rfl) (fun _ _ h => (by cases h)) fun F hP hm hC hrd => ?_; conv => whnf
  repeat first | refine lwp_seq fun K hK => ?_ | (with_reducible refine gA ?_; apply_assumption -exfalso -symm) | refine Stp.h ?_ | refine gF rfl ?_ | refine gG rfl ?_ | refine gM hC rfl ⟨⟩ ?_
  (refine lwp_region hC ⟨[], [], [(2, IxT_i l j s [(0, some 0)])]⟩ (told1 _ (by rw [hP]; exact (calls_cons (IxT_s _ _ _ _ hj hl) calls_nil))) rfl ?_ ?_; rotate_left 1)
  · repeat first | refine lwp_seq fun K hK => ?_ | (with_reducible refine gA ?_; apply_assumption -exfalso -symm) | refine Stp.h ?_ | refine gF rfl ?_ | refine gG rfl ?_ | refine gM hC rfl sd ?_
    (refine end_intro (by first | exact .inr rfl | exact .inl rfl) [] rfl ?_)
    refine ⟨?_, trivial⟩
    exact hsg.symm
  · exact sd
def HWd_i (l : List Jb) (j : Nat) (s : ByteArray) (σ : Ren) : Inst := { f := 23, hin := [(0, fmCh l)], args := [.tb 0 (.row j (lnJ l j)), Sb s], hout := [], ret := bl (memS (l.getD j jbD).af s), σ := σ }
set_option maxRecDepth 20000 in
theorem HWd_s (l : List Jb) (j : Nat) (s : ByteArray) (σ : Ren) (hj : j < l.length) (hl : lnJ l j ≤ 1000000) : (HWd_i l j s σ).ok Tryz.prog := by
  unfold HWd_i Inst.ok; dsimp only; refine spec_of_body (tys := tys) 1 Tryz.func23 (by kernel_rfl) rfl tys_ok rfl (Nat.le_of_ble_eq_true rfl) (fun _ _ h => (by cases h)) fun F hP hm hC hrd => ?_; conv => whnf
  repeat first | refine lwp_seq fun K hK => ?_ | (with_reducible refine gA ?_; apply_assumption -exfalso -symm) | refine Stp.h ?_ | refine gF rfl ?_ | refine gG rfl ?_ | refine gM hC rfl sd ?_
  refine lwp_loop (fun k : Nat => ⟨[(5, i64 k), (0, .tb 0 (.row j (lnJ l j))), (1, Sb s)], [(0, fmCh l)], 1⟩) (fun k => k ≤ lnJ l j ∧ ∀ i : Nat, i < k → afJ l j i ≠ s) (fun k => lnJ l j - k) 0 ⟨?_, sub_intro hm [(0, some 0)] rfl ?_⟩ ?_
  · exact ⟨Nat.zero_le _, fun i hi => absurd hi (Nat.not_lt_zero _)⟩
  · exact sd
  · rintro k ⟨hk, hf⟩
    have hkk : ((k : Int)).toNat = k := Int.toNat_natCast k
    have HF := Lib.hid hf
    clear hf
    repeat first | refine lwp_seq fun K hK => ?_ | (with_reducible refine gA ?_; apply_assumption -exfalso -symm) | refine Stp.h ?_ | refine gF rfl ?_ | refine gG rfl ?_ | refine gM hC rfl sd ?_
    refine lwp_condS hC rfl sd ?_ ?_ <;> intro hb
    · have hk2 : k < lnJ l j := by omega
      clear hb
      repeat first | refine lwp_seq fun K hK => ?_ | (with_reducible refine gA ?_; apply_assumption -exfalso -symm) | refine Stp.h ?_ | refine gF rfl ?_ | refine gG rfl ?_ | refine gM hC rfl ⟨⟩ ?_
      (refine lwp_region hC ⟨[], [], []⟩ (told0 _ _) rfl ?_ ?_; rotate_left 1)
      · rw [hkk]
        repeat first | refine lwp_seq fun K hK => ?_ | (with_reducible refine gA ?_; apply_assumption -exfalso -symm) | refine Stp.h ?_ | refine gF rfl ?_ | refine gG rfl ?_
        refine lwp_condS hC rfl sd ?_ ?_ <;> intro hb
        · have hE : memS (l.getD j jbD).af s = true := memS_hit hk2 hb
          clear hb
          repeat first | refine lwp_seq fun K hK => ?_ | (with_reducible refine gA ?_; apply_assumption -exfalso -symm) | refine Stp.h ?_ | refine gF rfl ?_ | refine gG rfl ?_ | refine gM hC rfl sd ?_
          (refine end_intro (by first | exact .inr rfl | exact .inl rfl) [] rfl ?_)
          rw [hE]
          exact sd
        · have hne : afJ l j k ≠ s := hb
          have HN := Lib.hid hne
          clear hb hne
          repeat first | refine lwp_seq fun K hK => ?_ | (with_reducible refine gA ?_; apply_assumption -exfalso -symm) | refine Stp.h ?_ | refine gF rfl ?_ | refine gG rfl ?_ | refine gM hC rfl sd ?_
          refine gA ⟨k + 1, ?_, ?_, sub_intro hm [(0, some 0)] rfl ?_⟩
          · refine ⟨hk2, fun i hi => ?_⟩
            by_cases e : i = k
            · subst e; exact HN.out
            · exact HF.out i (by omega)
          · omega
          · exact sd
      · rw [hkk]
        exact sd
    · have hk3 : k = lnJ l j := by omega
      subst hk3
      have hE : memS (l.getD j jbD).af s = false := memS_no HF.out
      repeat first | refine lwp_seq fun K hK => ?_ | (with_reducible refine gA ?_; apply_assumption -exfalso -symm) | refine Stp.h ?_ | refine gF rfl ?_ | refine gG rfl ?_ | refine gM hC rfl sd ?_
      (refine end_intro (by first | exact .inr rfl | exact .inl rfl) [] rfl ?_)
      rw [hE]
      exact sd

/-! The places of names. -/
def nmJ (l : List Jb) : List ByteArray := l.map (·.name)
theorem nmJ_take (l : List Jb) {k : Nat} (h : k < l.length) : nmJ (l.take (k + 1)) = nmJ (l.take k) ++ [(l.getD k jbD).name] := by
  unfold nmJ
  rw [take_snoc l jbD k h]; simp
theorem nmJ_len (l : List Jb) : (nmJ l).length = l.length := by simp [nmJ]
def Plc_i (l : List Jb) (σ : Ren) : Inst := { f := 59, hin := jobIn l, args := [.sl 0 l.length], hout := [(2, .obj (.ix (nmJ l)))], ret := .mp 2, σ := σ }
set_option maxRecDepth 20000 in
theorem Plc_s (l : List Jb) (σ : Ren) (hl : l.length ≤ 1000) (hd : ∀ k, k < l.length → memS (nmJ (l.take k)) (l.getD k jbD).name = false) : (Plc_i l σ).ok Tryz.prog := by
  have HD := Lib.hid hd
  clear hd
  unfold Plc_i jobIn Inst.ok; dsimp only; refine spec_of_body (tys := tys) 2 Tryz.func59 (by kernel_rfl) rfl tys_ok rfl (Nat.le_of_ble_eq_true rfl) (fun _ _ h => (by cases h)) fun F hP hm hC hrd => ?_; conv => whnf
  repeat first | refine lwp_seq fun K hK => ?_ | (with_reducible refine gA ?_; apply_assumption -exfalso -symm) | refine Stp.h ?_ | refine gF rfl ?_ | refine gG rfl ?_
  refine lwp_region hC ⟨[], [], []⟩ (told0 _ _) rfl ⟨⟩ ?_
  repeat first | refine lwp_seq fun K hK => ?_ | (with_reducible refine gA ?_; apply_assumption -exfalso -symm) | refine Stp.h ?_ | refine gF rfl ?_ | refine gG rfl ?_
  (refine lwp_region hC ⟨[(0, { i1 := some 1 })], [], []⟩ (told0 _ _) rfl ?_ ?_; rotate_left 1)
  · repeat first | refine lwp_seq fun K hK => ?_ | (with_reducible refine gA ?_; apply_assumption -exfalso -symm) | refine Stp.h ?_ | refine gF rfl ?_ | refine gG rfl ?_ | refine gM hC rfl sd ?_
    refine lwp_loop (fun k : Nat => ⟨[(9, i64 k), (8, i64 l.length), (7, .sl 0 l.length), (3, .mp 2)], [(2, .obj (.ix (nmJ (l.take k)))), (0, jbCh l 1), (1, fmCh l)], 3⟩) (fun k => k ≤ l.length) (fun k => l.length - k) 0 ⟨?_, sub_intro hm [(0, some 0), (1, some 1), (2, some 2)] rfl ?_⟩ ?_
    · exact Nat.zero_le _
    · exact sd
    · rintro k hk
      have hkk : ((k : Int)).toNat = k := Int.toNat_natCast k
      have hlt : (nmJ (l.take k)).length = k := by rw [nmJ_len, List.length_take]; omega
      repeat first | refine lwp_seq fun K hK => ?_ | (with_reducible refine gA ?_; apply_assumption -exfalso -symm) | refine Stp.h ?_ | refine gF rfl ?_ | refine gG rfl ?_ | refine gM hC rfl sd ?_
      refine lwp_condS hC rfl sd ?_ ?_ <;> intro hb
      · have hk2 : k < l.length := by omega
        have hm0 := HD.out k hk2
        have e := nmJ_take l hk2
        clear hb
        repeat first | refine lwp_seq fun K hK => ?_ | (with_reducible refine gA ?_; apply_assumption -exfalso -symm) | refine Stp.h ?_ | refine gF rfl ?_ | refine gG rfl ?_
        (refine lwp_region hC ⟨[], [], []⟩ (told0 _ _) rfl ?_ ?_; rotate_left 1)
        · rw [hkk]
          repeat first | refine lwp_seq fun K hK => ?_ | (with_reducible refine gA ?_; apply_assumption -exfalso -symm) | refine Stp.h ?_ | refine gF rfl ?_ | refine gG rfl ?_
          (refine lwp_region hC ⟨[], [], []⟩ (told0 _ _) rfl ?_ ?_; rotate_left 1)
          · rw [← e]
            repeat first | refine lwp_seq fun K hK => ?_ | (with_reducible refine gA ?_; apply_assumption -exfalso -symm) | refine Stp.h ?_ | refine gF rfl ?_ | refine gG rfl ?_ | refine gM hC rfl sd ?_
            refine gA ⟨k + 1, ?_, ?_, sub_intro hm [(0, some 0), (1, some 1), (2, some 2)] rfl ?_⟩
            · omega
            · omega
            · exact sd
          · exact sd
        · rw [hkk]
          exact sd
      · obtain rfl : k = l.length := by omega
        clear hb
        rw [List.take_length]
        repeat first | refine lwp_seq fun K hK => ?_ | (with_reducible refine gA ?_; apply_assumption -exfalso -symm) | refine Stp.h ?_ | refine gF rfl ?_ | refine gG rfl ?_ | refine gM hC rfl sd ?_
        (refine end_intro (by first | exact .inr rfl | exact .inl rfl) [(2, some 2)] rfl ?_)
        exact sd
  · exact sd

/-! What a job needs. -/
def afAt (ns af : List ByteArray) (q : Nat) : Int := firstS [whenS (!memS ns (af.getD q ByteArray.empty)) 10, whenS (memS (af.take q) (af.getD q ByteArray.empty)) 9]
def afE (ns af : List ByteArray) : Int := firstS ((List.range af.length).map (afAt ns af))
theorem str_take (af : List ByteArray) (q : Nat) (h : q ≤ af.length) : (strC (af.take q)).cells = (Cont.gen (q - 0) 1 fun k => [Value.string (af.getD (0 + k) ByteArray.empty)]).cells := by
  have hl : (af.take q).length = q := by rw [List.length_take]; omega
  unfold strC
  rw [hl, Nat.sub_zero]
  refine gen_congr fun k hk => ?_
  rw [Nat.zero_add, List.getD_eq_getElem?_getD, List.getD_eq_getElem?_getD, List.getElem?_take_of_lt hk]
def ChA_i (ns : List ByteArray) (l : List Jb) (j : Nat) (σ : Ren) : Inst := { f := 73, hin := [(0, .obj (.ix ns)), (1, fmCh l)], args := [.mp 0, jbA 1 l j], hout := [(0, .obj (.ix ns))], ret := i64 (afE ns (l.getD j jbD).af), σ := σ }
set_option maxRecDepth 20000 in
theorem ChA_s (ns : List ByteArray) (l : List Jb) (j : Nat) (σ : Ren) (hj : j < l.length) (hl : lnJ l j ≤ 1000) : (ChA_i ns l j σ).ok Tryz.prog := by
  unfold ChA_i Inst.ok; dsimp only; refine spec_of_body (tys := tys) 2 Tryz.func73 (by kernel_rfl) rfl tys_ok rfl (Nat.le_of_ble_eq_true rfl) (fun _ _ h => (by cases h)) fun F hP hm hC hrd => ?_; conv => whnf
  repeat first | refine lwp_seq fun K hK => ?_ | (with_reducible refine gA ?_; apply_assumption -exfalso -symm) | refine Stp.h ?_ | refine gF rfl ?_ | refine gG rfl ?_ | refine gM hC rfl sd ?_
  refine lwp_loop (fun q : Nat => ⟨[(13, i64 q), (12, i64 (lnJ l j)), (11, .tb 1 (.row j (lnJ l j))), (3, .ptr 2 0 0 0), (0, .mp 0)], [(2, .blk 131 [Sb (l.getD j jbD).name, Sb (l.getD j jbD).kind, .tb 1 (.row j (lnJ l j))]), (0, .obj (.ix ns)), (1, fmCh l)], 3⟩) (fun q => q ≤ lnJ l j ∧ afE ns (l.getD j jbD).af = firstS (((List.range (l.getD j jbD).af.length).map (afAt ns (l.getD j jbD).af)).drop q)) (fun q => lnJ l j - q) 0 ⟨?_, sub_intro hm [(0, some 0), (1, some 1), (2, some 2)] rfl ?_⟩ ?_
  · exact ⟨Nat.zero_le _, rfl⟩
  · exact sd
  · rintro q ⟨hq, hf⟩
    have hqq : ((q : Int)).toNat = q := Int.toNat_natCast q
    repeat first | refine lwp_seq fun K hK => ?_ | (with_reducible refine gA ?_; apply_assumption -exfalso -symm) | refine Stp.h ?_ | refine gF rfl ?_ | refine gG rfl ?_ | refine gM hC rfl sd ?_
    refine lwp_condS hC rfl sd ?_ ?_ <;> intro hb
    · have hq2 : q < lnJ l j := by omega
      rw [firstR_drop _ _ _ (show q < (l.getD j jbD).af.length from hq2)] at hf
      have HF := Lib.hid hf
      have htk := str_take (l.getD j jbD).af q hq
      have htl : ((l.getD j jbD).af.take q).length = q := by rw [List.length_take]; exact Nat.min_eq_left hq
      clear hf hb
      repeat first | refine lwp_seq fun K hK => ?_ | (with_reducible refine gA ?_; apply_assumption -exfalso -symm) | refine Stp.h ?_ | refine gF rfl ?_ | refine gG rfl ?_
      (refine lwp_region hC ⟨[], [], []⟩ (told0 _ _) rfl ?_ ?_; rotate_left 1)
      · rw [hqq]
        repeat first | refine lwp_seq fun K hK => ?_ | (with_reducible refine gA ?_; apply_assumption -exfalso -symm) | refine Stp.h ?_ | refine gF rfl ?_ | refine gG rfl ?_ | refine gM hC rfl sd ?_
        (refine lwp_drawn hC (by rw [hP]; exact mixed) ⟨[], [], [(2, PWhen_i (!memS ns (afJ l j q)) 10), (8, CtS_i ((l.getD j jbD).af.take q) (afJ l j q) [(0, some 3)]), (9, PWhen_i (memS ((l.getD j jbD).af.take q) (afJ l j q)) 9), (11, PFirst_i [whenS (!memS ns (afJ l j q)) 10, whenS (memS ((l.getD j jbD).af.take q) (afJ l j q)) 9] [(0, some 4)])]⟩ (told1 _ (by rw [hP]; exact (calls_cons (PWhen_s _ _) (calls_cons (CtS_s _ _ _ (by omega)) (calls_cons (PWhen_s _ _) (calls_cons (PFirst_s _ _ (by simp)) calls_nil)))))) [0, 1, 3, 0, 8, 0, 56, 0, 255, 511, 1023, 2047, 4095] 8 rfl ?_ ?_; rotate_left 1)
        · repeat first | refine lwp_seq fun K hK => ?_ | (with_reducible refine gA ?_; apply_assumption -exfalso -symm) | refine Stp.h ?_ | refine gF rfl ?_ | refine gG rfl ?_ | refine gM hC rfl sd ?_
          refine lwp_condS hC rfl sd ?_ ?_ <;> intro hb
          · have e : afE ns (l.getD j jbD).af = afAt ns (l.getD j jbD).af q := by rw [HF.out, if_neg (show ¬ afAt ns (l.getD j jbD).af q = 0 from hb)]
            clear hb
            repeat first | refine lwp_seq fun K hK => ?_ | (with_reducible refine gA ?_; apply_assumption -exfalso -symm) | refine Stp.h ?_ | refine gF rfl ?_ | refine gG rfl ?_ | refine gM hC rfl sd ?_
            (refine end_intro (by first | exact .inr rfl | exact .inl rfl) [(0, some 0)] rfl ?_)
            rw [e]
            exact sd
          · have e := HF.out
            rw [if_pos (show afAt ns (l.getD j jbD).af q = 0 from hb)] at e
            have HE := Lib.hid e
            clear hb e
            repeat first | refine lwp_seq fun K hK => ?_ | (with_reducible refine gA ?_; apply_assumption -exfalso -symm) | refine Stp.h ?_ | refine gF rfl ?_ | refine gG rfl ?_ | refine gM hC rfl sd ?_
            refine gA ⟨q + 1, ?_, ?_, sub_intro hm [(0, some 0), (1, some 1), (2, some 2)] rfl ?_⟩
            · exact ⟨hq2, HE.out⟩
            · omega
            · exact sd
        · (try rw [hqq])
          exact sd
      · rw [hqq]
        exact sd
    · have hqe0 : q = lnJ l j := by omega
      have hqe : q = (l.getD j jbD).af.length := hqe0
      rw [hqe, firstR_all] at hf
      have HF := Lib.hid hf
      clear hb hf
      repeat first | refine lwp_seq fun K hK => ?_ | (with_reducible refine gA ?_; apply_assumption -exfalso -symm) | refine Stp.h ?_ | refine gF rfl ?_ | refine gG rfl ?_ | refine gM hC rfl sd ?_
      (refine end_intro (by first | exact .inr rfl | exact .inl rfl) [(0, some 0)] rfl ?_)
      rw [HF.out]
      exact sd

end Go.Proofs.YtlhgddgoblliaaaGreatDoor
