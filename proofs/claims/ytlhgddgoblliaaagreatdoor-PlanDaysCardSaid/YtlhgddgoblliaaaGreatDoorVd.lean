/- Chapter 9: jobs that need themselves: the program's. -/
import Derived.Test.YtlhgddgoblliaaaGreatDoorVc
set_option linter.unusedVariables false
set_option linter.unusedSimpArgs false
namespace Go.Proofs.YtlhgddgoblliaaaGreatDoor
open Go.RowKit Go.Sym

def dnV (ns : List ByteArray) (D : List Bool) (s : ByteArray) : Bool := D.getD (ixV ns s).toNat false
def undB (ns : List ByteArray) (D : List Bool) (s : ByteArray) : Bool := !dnV ns D s
theorem ixV_in {ns : List ByteArray} (s : ByteArray) (h : 0 < ns.length) : 0 ≤ ixV ns s ∧ ixV ns s < ns.length := by
  unfold ixV
  cases e : ns.findIdx? (fun x => decide (s = x)) with
  | none => exact ⟨Int.le_refl 0, by show (0 : Int) < ns.length; omega⟩
  | some j =>
    obtain ⟨hj, _⟩ := List.findIdx?_eq_some_iff_getElem.1 e
    exact ⟨Int.natCast_nonneg j, by show (j : Int) < ns.length; omega⟩
def cycIn (ns : List ByteArray) (D : List Bool) : List (Nat × Chunk) := [(0, .rb 137 [.sl 1 D.length]), (1, .ro D.length 1 (.bools D)), (2, .rb 126 [.mp 3]), (3, .obj (.ix ns))]
def Cy1_i (ns : List ByteArray) (D : List Bool) (s : ByteArray) (σ : Ren) : Inst := { f := 131, hin := cycIn ns D, args := [Sb s, .ptr 0 0 0 0, .ptr 2 0 0 0], hout := [(3, .obj (.ix ns))], ret := bl (undB ns D s), σ := σ }
theorem Cy1_s (ns : List ByteArray) (D : List Bool) (s : ByteArray) (σ : Ren) (h0 : 0 < ns.length) (hl : ns.length = D.length) : (Cy1_i ns D s σ).ok Tryz.prog := by
  have hi := ixV_in s h0
  unfold Cy1_i cycIn Inst.ok; dsimp only; refine spec_of_body (tys := tys) 4 Tryz.func131 (by kernel_rfl) rfl tys_ok rfl (Nat.le_of_ble_eq_true rfl) (fun _ _ h => (by cases h)) fun F hP hm hC hrd => ?_; conv => whnf
  repeat first | refine lwp_seq fun K hK => ?_ | (with_reducible refine gA ?_; apply_assumption -exfalso -symm) | refine Stp.h ?_ | refine gF rfl ?_ | refine gG rfl ?_ | refine gM hC rfl sd ?_
  (refine end_intro (by first | exact .inr rfl | exact .inl rfl) [(3, some 3)] rfl ?_)
  exact sd
def cycIn2 (ns : List ByteArray) (D : List Bool) (l : List Jb) : List (Nat × Chunk) := [(0, .rb 137 [.sl 1 D.length]), (1, .ro D.length 1 (.bools D)), (2, .rb 126 [.mp 3]), (3, .obj (.ix ns)), (4, fmCh l)]
def IxC_i (ns : List ByteArray) (D : List Bool) (l : List Jb) (j : Nat) (σ : Ren) : Inst := { f := 155, hin := cycIn2 ns D l, args := [.tb 4 (.row j (lnJ l j)), .fn 131 [] [.ptr 0 0 0 0, .ptr 2 0 0 0]], hout := [(3, .obj (.ix ns))], ret := i64 (idxF (undB ns D) (l.getD j jbD).af), σ := σ }
set_option maxRecDepth 20000 in
theorem IxC_s (ns : List ByteArray) (D : List Bool) (l : List Jb) (j : Nat) (σ : Ren) (h0 : 0 < ns.length) (hD : ns.length = D.length) (hj : j < l.length) (hl : lnJ l j ≤ 1000000) : (IxC_i ns D l j σ).ok Tryz.prog := by
  unfold IxC_i cycIn2 Inst.ok; dsimp only; refine spec_of_body (tys := tys) 5 Tryz.func155 (by kernel_rfl) rfl tys_ok rfl (Nat.le_of_ble_eq_true rfl) (fun _ _ h => (by cases h)) fun F hP hm hC hrd => ?_; conv => whnf
  repeat first | refine lwp_seq fun K hK => ?_ | (with_reducible refine gA ?_; apply_assumption -exfalso -symm) | refine Stp.h ?_ | refine gF rfl ?_ | refine gG rfl ?_ | refine gM hC rfl sd ?_
  refine lwp_loop (fun k : Nat => ⟨[(8, i64 k), (7, i64 (lnJ l j)), (0, .tb 4 (.row j (lnJ l j))), (1, .fn 131 [] [.ptr 0 0 0 0, .ptr 2 0 0 0])], cycIn2 ns D l, 5⟩) (fun k => k ≤ lnJ l j ∧ ∀ i : Nat, i < k → undB ns D (afJ l j i) = false) (fun k => lnJ l j - k) 0 ⟨?_, sub_intro hm [(0, some 0), (1, some 1), (2, some 2), (3, some 3), (4, some 4)] rfl ?_⟩ ?_
  · exact ⟨Nat.zero_le _, fun i hi => absurd hi (Nat.not_lt_zero _)⟩
  · exact sd
  · rintro k ⟨hk, hf⟩
    have hkk : ((k : Int)).toNat = k := Int.toNat_natCast k
    have HF := Lib.hid hf
    clear hf
    unfold cycIn2
    repeat first | refine lwp_seq fun K hK => ?_ | (with_reducible refine gA ?_; apply_assumption -exfalso -symm) | refine Stp.h ?_ | refine gF rfl ?_ | refine gG rfl ?_ | refine gM hC rfl sd ?_
    refine lwp_condS hC rfl sd ?_ ?_ <;> intro hb
    · have hk2 : k < lnJ l j := by omega
      clear hb
      repeat first | refine lwp_seq fun K hK => ?_ | (with_reducible refine gA ?_; apply_assumption -exfalso -symm) | refine Stp.h ?_ | refine gF rfl ?_ | refine gG rfl ?_ | refine gM hC rfl sd ?_
      (refine lwp_region hC ⟨[], [], [(5, Cy1_i ns D (afJ l j k) [(0, some 0), (1, some 1), (2, some 2), (3, some 3)])]⟩ (told1 _ (by rw [hP]; exact (calls_cons (Cy1_s _ _ _ _ h0 hD) calls_nil))) rfl ?_ ?_; rotate_left 1)
      · repeat first | refine lwp_seq fun K hK => ?_ | (with_reducible refine gA ?_; apply_assumption -exfalso -symm) | refine Stp.h ?_ | refine gF rfl ?_ | refine gG rfl ?_ | refine gM hC rfl sd ?_
        refine lwp_condS hC rfl sd ?_ ?_ <;> intro hb
        · have hE := idxF_hit (d := ByteArray.empty) hk2 (show undB ns D (afJ l j k) = true from hb) HF.out
          clear hb
          repeat first | refine lwp_seq fun K hK => ?_ | (with_reducible refine gA ?_; apply_assumption -exfalso -symm) | refine Stp.h ?_ | refine gF rfl ?_ | refine gG rfl ?_ | refine gM hC rfl sd ?_
          (refine end_intro (by first | exact .inr rfl | exact .inl rfl) [(3, some 3)] rfl ?_)
          rw [hE]
          exact sd
        · have hne : undB ns D (afJ l j k) = false := hb
          have HN := Lib.hid hne
          clear hb hne
          repeat first | refine lwp_seq fun K hK => ?_ | (with_reducible refine gA ?_; apply_assumption -exfalso -symm) | refine Stp.h ?_ | refine gF rfl ?_ | refine gG rfl ?_ | refine gM hC rfl sd ?_
          refine gA ⟨k + 1, ?_, ?_, sub_intro hm [(0, some 0), (1, some 1), (2, some 2), (3, some 3), (4, some 4)] rfl ?_⟩
          · refine ⟨hk2, fun i hi => ?_⟩
            by_cases e : i = k
            · subst e; exact HN.out
            · exact HF.out i (by omega)
          · omega
          · exact sd
      · rw [hkk]
        exact sd
    · have hk3 : k = lnJ l j := by omega
      subst hk3
      have hE := idxF_none (d := ByteArray.empty) HF.out
      clear hb
      repeat first | refine lwp_seq fun K hK => ?_ | (with_reducible refine gA ?_; apply_assumption -exfalso -symm) | refine Stp.h ?_ | refine gF rfl ?_ | refine gG rfl ?_ | refine gM hC rfl sd ?_
      (refine end_intro (by first | exact .inr rfl | exact .inl rfl) [(3, some 3)] rfl ?_)
      rw [hE]
      exact sd
def CtC_i (ns : List ByteArray) (D : List Bool) (l : List Jb) (j : Nat) (σ : Ren) : Inst := { f := 123, hin := cycIn2 ns D l, args := [.tb 4 (.row j (lnJ l j)), .fn 131 [] [.ptr 0 0 0 0, .ptr 2 0 0 0]], hout := [(3, .obj (.ix ns))], ret := bl ((l.getD j jbD).af.any (undB ns D)), σ := σ }
set_option maxRecDepth 20000 in
theorem CtC_s (ns : List ByteArray) (D : List Bool) (l : List Jb) (j : Nat) (σ : Ren) (h0 : 0 < ns.length) (hD : ns.length = D.length) (hj : j < l.length) (hl : lnJ l j ≤ 1000000) : (CtC_i ns D l j σ).ok Tryz.prog := by
  have hsg := idxF_sign (undB ns D) (l.getD j jbD).af
  unfold CtC_i cycIn2 Inst.ok; dsimp only; refine spec_of_body (tys := tys) 5 Tryz.func123 (by kernel_rfl) rfl tys_ok rfl (Nat.le_of_ble_eq_true rfl) (fun _ _ h => (by cases h)) fun F hP hm hC hrd => ?_; conv => whnf
  repeat first | refine lwp_seq fun K hK => ?_ | (with_reducible refine gA ?_; apply_assumption -exfalso -symm) | refine Stp.h ?_ | refine gF rfl ?_ | refine gG rfl ?_ | refine gM hC rfl ⟨⟩ ?_
  (refine lwp_region hC ⟨[], [], [(2, IxC_i ns D l j [(0, some 0), (1, some 1), (2, some 2), (3, some 3), (4, some 4)])]⟩ (told1 _ (by rw [hP]; exact (calls_cons (IxC_s _ _ _ _ _ h0 hD hj hl) calls_nil))) rfl ?_ ?_; rotate_left 1)
  · repeat first | refine lwp_seq fun K hK => ?_ | (with_reducible refine gA ?_; apply_assumption -exfalso -symm) | refine Stp.h ?_ | refine gF rfl ?_ | refine gG rfl ?_ | refine gM hC rfl sd ?_
    (refine end_intro (by first | exact .inr rfl | exact .inl rfl) [(3, some 3)] rfl ?_)
    rw [← hsg]
    exact sd
  · exact sd
/-! A boolean in a list. -/
def eqO (b x : Bool) : Bool := decide (b = x)
def IxBo_i (l : List Bool) (b : Bool) (σ : Ren) : Inst := { f := 160, hin := [(0, .ro l.length 1 (.bools l))], args := [.sl 0 l.length, bl b], hout := [], ret := i64 (idxF (eqO b) l), σ := σ }
set_option maxRecDepth 20000 in
theorem IxBo_s (l : List Bool) (b : Bool) (σ : Ren) (hl : l.length ≤ 1000000) : (IxBo_i l b σ).ok Tryz.prog := by
  unfold IxBo_i Inst.ok; dsimp only; refine spec_of_body (tys := tys) 1 Tryz.func160 (by kernel_rfl) rfl tys_ok rfl (Nat.le_of_ble_eq_true rfl) (fun _ _ h => (by cases h)) fun F hP hm hC hrd => ?_; conv => whnf
  repeat first | refine lwp_seq fun K hK => ?_ | (with_reducible refine gA ?_; apply_assumption -exfalso -symm) | refine Stp.h ?_ | refine gF rfl ?_ | refine gG rfl ?_ | refine gM hC rfl sd ?_
  refine lwp_loop (fun k : Nat => ⟨[(8, i64 k), (7, i64 l.length), (0, .sl 0 l.length), (1, bl b)], [(0, .ro l.length 1 (.bools l))], 1⟩) (fun k => k ≤ l.length ∧ ∀ i : Nat, i < k → eqO b (l.getD i false) = false) (fun k => l.length - k) 0 ⟨?_, sub_intro hm [(0, some 0)] rfl ?_⟩ ?_
  · exact ⟨Nat.zero_le _, fun i hi => absurd hi (Nat.not_lt_zero _)⟩
  · exact sd
  · rintro k ⟨hk, hf⟩
    have hkk : ((k : Int)).toNat = k := Int.toNat_natCast k
    have HF := Lib.hid hf
    clear hf
    repeat first | refine lwp_seq fun K hK => ?_ | (with_reducible refine gA ?_; apply_assumption -exfalso -symm) | refine Stp.h ?_ | refine gF rfl ?_ | refine gG rfl ?_ | refine gM hC rfl sd ?_
    refine lwp_condS hC rfl sd ?_ ?_ <;> intro hb
    · have hk2 : k < l.length := by omega
      clear hb
      repeat first | refine lwp_seq fun K hK => ?_ | (with_reducible refine gA ?_; apply_assumption -exfalso -symm) | refine Stp.h ?_ | refine gF rfl ?_ | refine gG rfl ?_ | refine gM hC rfl ⟨⟩ ?_
      (refine lwp_region hC ⟨[], [], []⟩ (told0 _ _) rfl ?_ ?_; rotate_left 1)
      · rw [hkk]
        repeat first | refine lwp_seq fun K hK => ?_ | (with_reducible refine gA ?_; apply_assumption -exfalso -symm) | refine Stp.h ?_ | refine gF rfl ?_ | refine gG rfl ?_
        refine lwp_condS hC rfl sd ?_ ?_ <;> intro hb
        · have hE := idxF_hit hk2 (show eqO b (l.getD k false) = true from by simpa [eqO] using hb) HF.out
          clear hb
          repeat first | refine lwp_seq fun K hK => ?_ | (with_reducible refine gA ?_; apply_assumption -exfalso -symm) | refine Stp.h ?_ | refine gF rfl ?_ | refine gG rfl ?_ | refine gM hC rfl sd ?_
          (refine end_intro (by first | exact .inr rfl | exact .inl rfl) [] rfl ?_)
          rw [hE]
          exact sd
        · have hne : eqO b (l.getD k false) = false := by simpa [eqO] using hb
          have HN := Lib.hid hne
          clear hb hne
          repeat first | refine lwp_seq fun K hK => ?_ | (with_reducible refine gA ?_; apply_assumption -exfalso -symm) | refine Stp.h ?_ | refine gF rfl ?_ | refine gG rfl ?_ | refine gM hC rfl sd ?_
          refine gA ⟨k + 1, ?_, ?_, sub_intro hm [(0, some 0)] rfl ?_⟩
          · refine ⟨hk2, fun i hi => ?_⟩
            by_cases e : i = k
            · subst e; exact HN.out
            · exact HF.out i (by omega)
          · omega
          · exact sd
      · rw [hkk]
        exact sd
    · have hk3 : k = l.length := by omega
      subst hk3
      have hE := idxF_none HF.out
      repeat first | refine lwp_seq fun K hK => ?_ | (with_reducible refine gA ?_; apply_assumption -exfalso -symm) | refine Stp.h ?_ | refine gF rfl ?_ | refine gG rfl ?_ | refine gM hC rfl sd ?_
      (refine end_intro (by first | exact .inr rfl | exact .inl rfl) [] rfl ?_)
      rw [hE]
      exact sd
def CtBo_i (l : List Bool) (b : Bool) (σ : Ren) : Inst := { f := 132, hin := [(0, .ro l.length 1 (.bools l))], args := [.sl 0 l.length, bl b], hout := [], ret := bl (l.any (eqO b)), σ := σ }
set_option maxRecDepth 20000 in
theorem CtBo_s (l : List Bool) (b : Bool) (σ : Ren) (hl : l.length ≤ 1000000) : (CtBo_i l b σ).ok Tryz.prog := by
  have hsg := idxF_sign (eqO b) l
  unfold CtBo_i Inst.ok; dsimp only; refine spec_of_body (tys := tys) 1 Tryz.func132 (by kernel_rfl) rfl tys_ok rfl (Nat.le_of_ble_eq_true rfl) (fun _ _ h => (by cases h)) fun F hP hm hC hrd => ?_; conv => whnf
  repeat first | refine lwp_seq fun K hK => ?_ | (with_reducible refine gA ?_; apply_assumption -exfalso -symm) | refine Stp.h ?_ | refine gF rfl ?_ | refine gG rfl ?_ | refine gM hC rfl ⟨⟩ ?_
  (refine lwp_region hC ⟨[], [], [(2, IxBo_i l b [(0, some 0)])]⟩ (told1 _ (by rw [hP]; exact (calls_cons (IxBo_s _ _ _ hl) calls_nil))) rfl ?_ ?_; rotate_left 1)
  · repeat first | refine lwp_seq fun K hK => ?_ | (with_reducible refine gA ?_; apply_assumption -exfalso -symm) | refine Stp.h ?_ | refine gF rfl ?_ | refine gG rfl ?_ | refine gM hC rfl sd ?_
    (refine end_intro (by first | exact .inr rfl | exact .inl rfl) [] rfl ?_)
    rw [← hsg]
    exact sd
  · exact sd

/-! Done, round by round. -/
def stD (ns : List ByteArray) (l : List Jb) (D : List Bool) : Nat → List Bool
  | 0 => D
  | i + 1 => (stD ns l D i).set i (!((l.getD i jbD).af.any (undB ns (stD ns l D i))))
def rdD (ns : List ByteArray) (l : List Jb) : Nat → List Bool
  | 0 => List.replicate l.length false
  | r + 1 => stD ns l (rdD ns l r) l.length
def cycB (l : List Jb) : Bool := (rdD (nmJ l) l l.length).any (eqO false)
theorem stD_len (ns : List ByteArray) (l : List Jb) (D : List Bool) : ∀ i, (stD ns l D i).length = D.length
  | 0 => rfl
  | i + 1 => by simp only [stD, List.length_set, stD_len ns l D i]
theorem rdD_len (ns : List ByteArray) (l : List Jb) : ∀ r, (rdD ns l r).length = l.length
  | 0 => List.length_replicate
  | r + 1 => by simp only [rdD, stD_len, rdD_len ns l r]
def Cyc_i (l : List Jb) (σ : Ren) : Inst := { f := 74, hin := jobIn l ++ [(2, .obj (.ix (nmJ l)))], args := [.sl 0 l.length, .mp 2], hout := [(2, .obj (.ix (nmJ l)))], ret := bl (cycB l), σ := σ }
set_option maxRecDepth 20000 in
set_option maxHeartbeats 4000000 in
theorem Cyc_s (l : List Jb) (σ : Ren) (hl : l.length ≤ 1000) (hln : ∀ k, lnJ l k ≤ 1000) : (Cyc_i l σ).ok Tryz.prog := by
  obtain ⟨ns, hns⟩ : ∃ ns, nmJ l = ns := ⟨_, rfl⟩
  have hnl : ns.length = l.length := by rw [← hns, nmJ_len]
  have hcy : cycB l = (rdD ns l l.length).any (eqO false) := by unfold cycB; rw [hns]
  unfold Cyc_i
  rw [hns, hcy]
  clear hns hcy
  unfold jobIn Inst.ok; dsimp only; refine spec_of_body (tys := tys) 3 Tryz.func74 (by kernel_rfl) rfl tys_ok rfl (Nat.le_of_ble_eq_true rfl) (fun _ _ h => (by cases h)) fun F hP hm hC hrd => ?_; conv => whnf
  repeat first | refine lwp_seq fun K hK => ?_ | (with_reducible refine gA ?_; apply_assumption -exfalso -symm) | refine Stp.h ?_ | refine gF rfl ?_ | refine gG rfl ?_ | refine gM hC rfl sd ?_
  refine lwp_loop (fun r : Nat => ⟨[(13, i64 r), (12, i64 l.length), (0, .sl 0 l.length), (3, .ptr 3 0 0 0), (5, .ptr 5 0 0 0)], [(4, .row 4 l.length 1 (.bools (rdD ns l r))), (5, .blk 137 [.sl 4 l.length]), (3, .blk 126 [.mp 2]), (2, .obj (.ix ns)), (0, jbCh l 1), (1, fmCh l)], 6⟩) (fun r => r ≤ l.length) (fun r => l.length - r) 0 ⟨?_, sub_intro hm [(0, some 0), (1, some 1), (2, some 2), (3, some 3), (4, some 4), (5, some 5)] rfl ?_⟩ ?_
  · exact Nat.zero_le _
  · have e : rdD ns l 0 = List.replicate l.length false := rfl
    exact sd
  · rintro r hr
    repeat first | refine lwp_seq fun K hK => ?_ | (with_reducible refine gA ?_; apply_assumption -exfalso -symm) | refine Stp.h ?_ | refine gF rfl ?_ | refine gG rfl ?_ | refine gM hC rfl sd ?_
    refine lwp_condS hC rfl sd ?_ ?_ <;> intro hb
    · have hr2 : r < l.length := by omega
      clear hb
      have hrl := rdD_len ns l r
      obtain ⟨D, hDe⟩ : ∃ D, rdD ns l r = D := ⟨_, rfl⟩
      have hnx : rdD ns l (r + 1) = stD ns l D l.length := by rw [← hDe]; rfl
      rw [hDe] at hrl
      rw [hDe]
      have HNX := Lib.hid hnx
      clear hnx hDe
      repeat first | refine lwp_seq fun K hK => ?_ | (with_reducible refine gA ?_; apply_assumption -exfalso -symm) | refine Stp.h ?_ | refine gF rfl ?_ | refine gG rfl ?_ | refine gM hC rfl sd ?_
      refine lwp_loop (fun i : Nat => ⟨[(17, i64 i), (16, i64 l.length), (15, .sl 0 l.length), (13, i64 r), (12, i64 l.length), (0, .sl 0 l.length), (3, .ptr 3 0 0 0), (5, .ptr 5 0 0 0)], [(4, .row 4 l.length 1 (.bools (stD ns l D i))), (5, .blk 137 [.sl 4 l.length]), (3, .blk 126 [.mp 2]), (2, .obj (.ix ns)), (0, jbCh l 1), (1, fmCh l)], 6⟩) (fun i => i ≤ l.length) (fun i => l.length - i) 0 ⟨?_, sub_intro hm [(0, some 0), (1, some 1), (2, some 2), (3, some 3), (4, some 4), (5, some 5)] rfl ?_⟩ ?_
      · exact Nat.zero_le _
      · have e : stD ns l D 0 = D := rfl
        exact sd
      · rintro i hi
        have hii : ((i : Int)).toNat = i := Int.toNat_natCast i
        have hsl : (stD ns l D i).length = l.length := by rw [stD_len]; exact hrl
        repeat first | refine lwp_seq fun K hK => ?_ | (with_reducible refine gA ?_; apply_assumption -exfalso -symm) | refine Stp.h ?_ | refine gF rfl ?_ | refine gG rfl ?_ | refine gM hC rfl sd ?_
        refine lwp_condS hC rfl sd ?_ ?_ <;> intro hb
        · have hi2 : i < l.length := by omega
          clear hb
          have e : stD ns l D (i + 1) = (stD ns l D i).set i (!((l.getD i jbD).af.any (undB ns (stD ns l D i)))) := rfl
          obtain ⟨E, hEe⟩ : ∃ E, stD ns l D i = E := ⟨_, rfl⟩
          rw [hEe] at e hsl
          rw [hEe]
          have HE := Lib.hid e
          clear e hEe
          rw [← hsl] at hi2
          have hct := CtC_s ns E l i [(0, some 5), (1, some 4), (2, some 3), (3, some 2), (4, some 1)] (by omega) (by omega) (by omega) (by have := hln i; omega)
          rw [hsl] at hi2
          have HC := Lib.hid hct
          clear hct
          repeat first | refine lwp_seq fun K hK => ?_ | (with_reducible refine gA ?_; apply_assumption -exfalso -symm) | refine Stp.h ?_ | refine gF rfl ?_ | refine gG rfl ?_
          (refine lwp_region hC ⟨[], [], []⟩ (told0 _ _) rfl ?_ ?_; rotate_left 1)
          · rw [hii]
            repeat first | refine lwp_seq fun K hK => ?_ | (with_reducible refine gA ?_; apply_assumption -exfalso -symm) | refine Stp.h ?_ | refine gF rfl ?_ | refine gG rfl ?_
            (refine lwp_drawn2 hC (by rw [hP]; exact mixed) ⟨[], [], [(5, CtC_i ns E l i [(0, some 5), (1, some 4), (2, some 3), (3, some 2), (4, some 1)])]⟩ (told1 _ (by rw [hP]; exact (calls_cons (HC.out) calls_nil))) [0, 0, 0, 4, 0, 28, 60, 127, 255] 5 3 rfl ?_ ?_; rotate_left 1)
            · rw [hii, ← HE.out]
              repeat first | refine lwp_seq fun K hK => ?_ | (with_reducible refine gA ?_; apply_assumption -exfalso -symm) | refine Stp.h ?_ | refine gF rfl ?_ | refine gG rfl ?_ | refine gM hC rfl sd ?_
              refine gA ⟨i + 1, ?_, ?_, sub_intro hm [(0, some 0), (1, some 1), (2, some 2), (3, some 3), (4, some 4), (5, some 5)] rfl ?_⟩
              · omega
              · omega
              · exact sd
            · rw [hii]
              exact sd
          · rw [hii]
            exact sd
        · obtain rfl : i = l.length := by omega
          clear hb
          rw [← HNX.out]
          repeat first | refine lwp_seq fun K hK => ?_ | (with_reducible refine gA ?_; apply_assumption -exfalso -symm) | refine Stp.h ?_ | refine gF rfl ?_ | refine gG rfl ?_ | refine gM hC rfl sd ?_
          refine gA ⟨r + 1, ?_, ?_, sub_intro hm [(0, some 0), (1, some 1), (2, some 2), (3, some 3), (4, some 4), (5, some 5)] rfl ?_⟩
          · omega
          · omega
          · exact sd
    · obtain rfl : r = l.length := by omega
      clear hb
      have hrl := rdD_len ns l l.length
      have hco := CtBo_s (rdD ns l l.length) false [(0, some 4)] (by omega)
      unfold CtBo_i at hco
      rw [hrl] at hco
      repeat first | refine lwp_seq fun K hK => ?_ | (with_reducible refine gA ?_; apply_assumption -exfalso -symm) | refine Stp.h ?_ | refine gF rfl ?_ | refine gG rfl ?_ | refine gM hC rfl sd ?_
      (refine lwp_region hC ⟨[], [], [(1, { f := 132, hin := [(0, .ro l.length 1 (.bools (rdD ns l l.length)))], args := [.sl 0 l.length, bl false], hout := [], ret := bl ((rdD ns l l.length).any (eqO false)), σ := [(0, some 4)] })]⟩ (told1 _ (by rw [hP]; exact (calls_cons (hco) calls_nil))) rfl ?_ ?_; rotate_left 1)
      · repeat first | refine lwp_seq fun K hK => ?_ | (with_reducible refine gA ?_; apply_assumption -exfalso -symm) | refine Stp.h ?_ | refine gF rfl ?_ | refine gG rfl ?_ | refine gM hC rfl sd ?_
        (refine end_intro (by first | exact .inr rfl | exact .inl rfl) [(2, some 2)] rfl ?_)
        exact sd
      · exact sd

end Go.Proofs.YtlhgddgoblliaaaGreatDoor
