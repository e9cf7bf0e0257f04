/- Runs checked, the program's and the reference's. -/
import Derived.Test.YtoopgdchiljmiaaGreatDoorHd
set_option linter.unusedVariables false
set_option linter.unusedSimpArgs false
namespace Go.Proofs.YtoopgdchiljmiaaGreatDoor
open Go.RowKit Go.Sym

def rnIn (t : Rn) : List (Nat × Chunk) := [(0, .ro t.smp.length 1 (flC t.smp)), (1, .ro t.holes.length 2 (spC t.holes))]
def rnA (i j : Nat) (t : Rn) : AV := .agg [.lit (.string t.name), i64 t.first, .sl i t.smp.length, .sl j t.holes.length]
def holeR (t : Rn) : Int := if holesS t.smp.length (-1) t.holes ≠ 0 then holesS t.smp.length (-1) t.holes else formS (t.smp.map nzF) t.holes

theorem nzF_any (l : List Nat) (a n : Nat) : (((l.map nzF).drop a).take n).any (· != 0) = ((l.drop a).take n).any nzB := by
  rw [← List.map_drop, ← List.map_take, List.any_map]
  congr 1
  funext b
  unfold nzF nzB
  simp only [Function.comp]
  cases Op.floatEq .f32 b 0 <;> rfl
theorem fl_slice (l : List Nat) (a b : Nat) (h : b ≤ l.length) : (Cont.gen (b - a) 1 fun k => [Value.float .f32 (l.getD (a + k) 0)]).cells = (flC ((l.drop a).take (b - a))).cells := by
  rw [flC_cells]
  simp only [Cont.cells, Nat.mul_one, Nat.div_one, Nat.mod_one, floats, List.map_map]
  apply List.ext_getElem
  · simp; omega
  · intro i h1 h2
    simp at h1 h2
    have : a + i < l.length := by omega
    simp [List.getElem?_eq_getElem this]

def SHoles_i (t : Rn) (σ : Ren) : Inst := { f := 180, hin := rnIn t, args := [rnA 0 1 t], hout := [], ret := i64 (holeR t), σ := σ }
def ctR (t : Rn) : List (Nat × Chunk) := [(2, .blk 72 [.lit (.string t.name), i64 t.first, .sl 0 t.smp.length, .sl 1 t.holes.length]), (0, .ro t.smp.length 1 (flC t.smp)), (1, .ro t.holes.length 2 (spC t.holes))]
set_option maxRecDepth 20000 in
set_option maxHeartbeats 4000000 in
theorem SHoles_s (t : Rn) (σ : Ren) (hv : t.smp.length ≤ 100000) (hl : t.holes.length ≤ 100000) : (SHoles_i t σ).ok Tryz.prog := by
  unfold SHoles_i Inst.ok; dsimp only; refine spec_of_body (tys := tys) 2 Tryz.func180 (by kernel_rfl) rfl tys_ok rfl (Nat.le_of_ble_eq_true rfl) (fun _ _ h => (by cases h)) fun F hP hm hC hrd => ?_; conv => whnf
  repeat first | refine lwp_seq fun K hK => ?_ | ((with_reducible refine gA ?_); apply_assumption -exfalso -symm) | refine gB ?_ | refine gC ?_ | refine gD ?_ | refine gE ?_ | refine gF rfl ?_ | refine gG rfl ?_ | refine gH ?_ | refine gI ?_ | refine gJ ?_ | refine gK ?_ | refine gL ?_ | refine lwp_region hC ⟨[], [], []⟩ (told0 _ _) rfl ⟨⟩ ?_
  refine lwp_loop (fun k : Nat => ⟨[(12, i64 k), (11, i64 t.holes.length), (10, .sl 1 t.holes.length), (3, i64 (lastH t.holes k)), (1, .ptr 2 0 0 0)], ctR t, 3⟩) (fun k => k ≤ t.holes.length ∧ holesS t.smp.length (-1) t.holes = holesS t.smp.length (lastH t.holes k) (t.holes.drop k)) (fun k => t.holes.length - k) 0 ⟨?_, sub_intro hm [(0, some 0), (1, some 1), (2, some 2)] rfl ?_⟩ ?_
  · exact ⟨Nat.zero_le _, rfl⟩
  · exact sd
  rintro j ⟨hj, hg⟩
  unfold ctR
  have hjj : ((j : Int)).toNat = j := Int.toNat_natCast j
  have HG := Lib.hid hg
  clear hg
  repeat first | refine lwp_seq fun K hK => ?_ | ((with_reducible refine gA ?_); apply_assumption -exfalso -symm) | refine gB ?_ | refine gC ?_ | refine gD ?_ | refine gE ?_ | refine gF rfl ?_ | refine gG rfl ?_ | refine gH ?_ | refine gI ?_ | refine gJ ?_ | refine gK ?_ | refine gL ?_ | refine lwp_region hC ⟨[], [], []⟩ (told0 _ _) rfl ⟨⟩ ?_
  (refine lwp_cond hC rfl (by first | exact ⟨⟩ | exact sd) (fun hb => ?_) (fun hb => ?_) <;> (try simp only [decide_eq_true_eq, decide_eq_false_iff_not, Bool.not_eq_true', Bool.not_eq_false', ne_eq, Decidable.not_not] at hb))
  · have hj2 : j < t.holes.length := by omega
    have hg := HG.out
    rw [holesS_step _ _ _ _ hj2] at hg
    have HG := Lib.hid hg
    clear hg
    repeat first | refine lwp_seq fun K hK => ?_ | ((with_reducible refine gA ?_); apply_assumption -exfalso -symm) | refine gB ?_ | refine gC ?_ | refine gD ?_ | refine gE ?_ | refine gF rfl ?_ | refine gG rfl ?_ | refine gH ?_ | refine gI ?_ | refine gJ ?_ | refine gK ?_ | refine gL ?_ | refine lwp_region hC ⟨[], [], []⟩ (told0 _ _) rfl ⟨⟩ ?_ | refine lwp_region hC ⟨[], [], []⟩ (told0 _ _) rfl (by exact sd) ?_
    rw [hjj]
    generalize hh2 : t.holes.getD j (0, 0) = h at *
    (refine lwp_drawn2 hC (by rw [hP]; exact mixed) ⟨[], [], [(18, SWhen_i (decide (h.1 < 0) || decide (h.2 ≤ h.1) || decide ((t.smp.length : Int) < h.2)) 14), (23, SWhen_i (decide (h.1 ≤ lastH t.holes j)) 11), (25, SFirst_i [spanS t.smp.length h, whenS (decide (h.1 ≤ lastH t.holes j)) 11] [(0, some 5)])]⟩ (told1 _ (by rw [hP]; exact (calls_cons (SWhen_s _ _) (calls_cons (SWhen_s _ _) (calls_cons (SFirst_s _ _ (by simp)) calls_nil))))) [0, 1, 3, 7, 15, 31, 15, 79, 255, 511, 1023, 2047, 4095, 2047, 10239, 26623, 65535, 131071, 262143, 0, 524288, 0, 3670016, 8388607, 16777215, 33554431, 67108863] 27 0 rfl ?_ ?_; rotate_left 1)
    · repeat first | refine lwp_seq fun K hK => ?_ | ((with_reducible refine gA ?_); apply_assumption -exfalso -symm) | refine gB ?_ | refine gC ?_ | refine gD ?_ | refine gE ?_ | refine gF rfl ?_ | refine gG rfl ?_ | refine gH ?_ | refine gI ?_ | refine gJ ?_ | refine gK ?_ | refine gL ?_ | refine lwp_region hC ⟨[], [], []⟩ (told0 _ _) rfl ⟨⟩ ?_ | refine lwp_region hC ⟨[], [], []⟩ (told0 _ _) rfl (by exact sd) ?_
      (refine lwp_cond hC rfl (by first | exact ⟨⟩ | exact sd) (fun hb => ?_) (fun hb => ?_) <;> (try simp only [decide_eq_true_eq, decide_eq_false_iff_not, Bool.not_eq_true', Bool.not_eq_false', ne_eq, Decidable.not_not] at hb))
      · have e : holeR t = firstS [spanS t.smp.length h, whenS (decide (h.1 ≤ lastH t.holes j)) 11] := by
          have hb2 : holeS t.smp.length (lastH t.holes j) h ≠ 0 := hb
          have e3 := HG.out
          rw [if_pos hb2] at e3
          unfold holeR
          rw [e3, if_pos hb2]; rfl
        repeat first | refine lwp_seq fun K hK => ?_ | ((with_reducible refine gA ?_); apply_assumption -exfalso -symm) | refine gB ?_ | refine gC ?_ | refine gD ?_ | refine gE ?_ | refine gF rfl ?_ | refine gG rfl ?_ | refine gH ?_ | refine gI ?_ | refine gJ ?_ | refine gK ?_ | refine gL ?_ | refine lwp_region hC ⟨[], [], []⟩ (told0 _ _) rfl ⟨⟩ ?_ | refine lwp_region hC ⟨[], [], []⟩ (told0 _ _) rfl (by exact sd) ?_
        (refine end_intro (by first | exact .inr rfl | exact .inl rfl) [] rfl ?_)
        exact ⟨e, trivial⟩
      · have hb2 : ¬ holeS t.smp.length (lastH t.holes j) h ≠ 0 := fun h => h hb
        have e3 := HG.out
        rw [if_neg hb2] at e3
        have hlast : lastH t.holes (j + 1) = h.2 := by
          unfold lastH
          rw [if_neg (Nat.succ_ne_zero j), Nat.add_sub_cancel, hh2]
        have HG2 := Lib.hid e3
        clear e3 hb hb2
        repeat first | refine lwp_seq fun K hK => ?_ | ((with_reducible refine gA ?_); apply_assumption -exfalso -symm) | refine gB ?_ | refine gC ?_ | refine gD ?_ | refine gE ?_ | refine gF rfl ?_ | refine gG rfl ?_ | refine gH ?_ | refine gI ?_ | refine gJ ?_ | refine gK ?_ | refine gL ?_ | refine lwp_region hC ⟨[], [], []⟩ (told0 _ _) rfl ⟨⟩ ?_ | refine lwp_region hC ⟨[], [], []⟩ (told0 _ _) rfl (by exact sd) ?_
        refine gA ⟨j + 1, ?_, ?_, sub_intro hm [(0, some 0), (1, some 1), (2, some 2)] rfl ?_⟩
        · exact ⟨by omega, HG2.out⟩
        · omega
        · rw [hlast]; exact sd
    · unfold spanS
      refine ⟨trivial, ⟨rfl, rfl, rfl, trivial⟩, ⟨rfl, rfl, trivial⟩, ⟨rfl, ?_, trivial⟩, ?_⟩
      · show (decide (h.1 < 0) || decide (h.2 ≤ h.1) || decide ((t.smp.length : Int) < h.2)) = _
        rw [bif_or, bif_or]
      · simp only [AllL, All, cp_p, cd_p]
        generalize decide (h.1 < 0) = p
        generalize decide (h.2 ≤ h.1) = q
        revert p q
        decide
  · have hg0 : holesS t.smp.length (-1) t.holes = 0 := by rw [HG.out, List.drop_of_length_le (by omega)]; rfl
    have hok := holesS_ok _ _ _ hg0
    have hR : holeR t = formS (t.smp.map nzF) t.holes := by unfold holeR; rw [hg0]; rfl
    have HR := Lib.hid hR
    clear hR HG hg0
    have HOK := Lib.hid hok
    clear hok
    repeat first | refine lwp_seq fun K hK => ?_ | ((with_reducible refine gA ?_); apply_assumption -exfalso -symm) | refine gB ?_ | refine gC ?_ | refine gD ?_ | refine gE ?_ | refine gF rfl ?_ | refine gG rfl ?_ | refine gH ?_ | refine gI ?_ | refine gJ ?_ | refine gK ?_ | refine gL ?_ | refine lwp_region hC ⟨[], [], []⟩ (told0 _ _) rfl ⟨⟩ ?_ | refine lwp_region hC ⟨[], [], []⟩ (told0 _ _) rfl (by exact sd) ?_
    refine lwp_loop (fun k : Nat => ⟨[(51, i64 k), (50, i64 t.holes.length), (49, .sl 1 t.holes.length), (1, .ptr 2 0 0 0)], ctR t, 3⟩) (fun k => k ≤ t.holes.length ∧ formS (t.smp.map nzF) t.holes = formS (t.smp.map nzF) (t.holes.drop k)) (fun k => t.holes.length - k) 0 ⟨?_, sub_intro hm [(0, some 0), (1, some 1), (2, some 2)] rfl ?_⟩ ?_
    · exact ⟨Nat.zero_le _, rfl⟩
    · exact sd
    rintro m ⟨hm', hg⟩
    unfold ctR
    have hmm : ((m : Int)).toNat = m := Int.toNat_natCast m
    have HG := Lib.hid hg
    clear hg
    repeat first | refine lwp_seq fun K hK => ?_ | ((with_reducible refine gA ?_); apply_assumption -exfalso -symm) | refine gB ?_ | refine gC ?_ | refine gD ?_ | refine gE ?_ | refine gF rfl ?_ | refine gG rfl ?_ | refine gH ?_ | refine gI ?_ | refine gJ ?_ | refine gK ?_ | refine gL ?_ | refine lwp_region hC ⟨[], [], []⟩ (told0 _ _) rfl ⟨⟩ ?_
    (refine lwp_cond hC rfl (by first | exact ⟨⟩ | exact sd) (fun hb => ?_) (fun hb => ?_) <;> (try simp only [decide_eq_true_eq, decide_eq_false_iff_not, Bool.not_eq_true', Bool.not_eq_false', ne_eq, Decidable.not_not] at hb))
    · have hm2 : m < t.holes.length := by omega
      have hg := HG.out
      rw [List.drop_eq_getElem_cons hm2] at hg
      have eh : t.holes[m] = t.holes.getD m (0, 0) := by rw [List.getD_eq_getElem?_getD, List.getElem?_eq_getElem hm2]; rfl
      have hrange := HOK.out _ (List.getElem_mem hm2)
      rw [eh] at hg hrange
      rw [formS, nzF_any] at hg
      have ez : ((t.holes.getD m (0, 0)).2 - (t.holes.getD m (0, 0)).1).toNat = (t.holes.getD m (0, 0)).2.toNat - (t.holes.getD m (0, 0)).1.toNat := by omega
      rw [ez] at hg
      have HG := Lib.hid hg
      clear hg eh ez
      repeat first | refine lwp_seq fun K hK => ?_ | ((with_reducible refine gA ?_); apply_assumption -exfalso -symm) | refine gB ?_ | refine gC ?_ | refine gD ?_ | refine gE ?_ | refine gF rfl ?_ | refine gG rfl ?_ | refine gH ?_ | refine gI ?_ | refine gJ ?_ | refine gK ?_ | refine gL ?_ | refine lwp_region hC ⟨[], [], []⟩ (told0 _ _) rfl ⟨⟩ ?_ | refine lwp_region hC ⟨[], [], []⟩ (told0 _ _) rfl (by exact sd) ?_
      rw [hmm]
      generalize hh2 : t.holes.getD m (0, 0) = h at *
      (refine lwp_region hC ⟨[(6, { i1 := some h.1.toNat, i2 := some h.2.toNat })], [], [(7, CfF_i ((t.smp.drop h.1.toNat).take (h.2.toNat - h.1.toNat)) [(0, some 5)])]⟩ (told1 _ (by rw [hP]; exact (calls_cons (CfF_s _ _ (by rw [List.length_take, List.length_drop]; omega)) calls_nil))) rfl ?_ ?_; rotate_left 1)
      · repeat first | refine lwp_seq fun K hK => ?_ | ((with_reducible refine gA ?_); apply_assumption -exfalso -symm) | refine gB ?_ | refine gC ?_ | refine gD ?_ | refine gE ?_ | refine gF rfl ?_ | refine gG rfl ?_ | refine gH ?_ | refine gI ?_ | refine gJ ?_ | refine gK ?_ | refine gL ?_ | refine lwp_region hC ⟨[], [], []⟩ (told0 _ _) rfl ⟨⟩ ?_ | refine lwp_region hC ⟨[], [], []⟩ (told0 _ _) rfl (by exact sd) ?_
        (refine lwp_cond hC rfl (by first | exact ⟨⟩ | exact sd) (fun hb => ?_) (fun hb => ?_) <;> (try simp only [decide_eq_true_eq, decide_eq_false_iff_not, Bool.not_eq_true', Bool.not_eq_false', ne_eq, Decidable.not_not] at hb))
        · have e : holeR t = 1 := by rw [HR.out, HG.out, if_pos hb]
          repeat first | refine lwp_seq fun K hK => ?_ | ((with_reducible refine gA ?_); apply_assumption -exfalso -symm) | refine gB ?_ | refine gC ?_ | refine gD ?_ | refine gE ?_ | refine gF rfl ?_ | refine gG rfl ?_ | refine gH ?_ | refine gI ?_ | refine gJ ?_ | refine gK ?_ | refine gL ?_ | refine lwp_region hC ⟨[], [], []⟩ (told0 _ _) rfl ⟨⟩ ?_ | refine lwp_region hC ⟨[], [], []⟩ (told0 _ _) rfl (by exact sd) ?_
          (refine end_intro (by first | exact .inr rfl | exact .inl rfl) [] rfl ?_)
          exact ⟨e, trivial⟩
        · have hg := HG.out
          rw [if_neg (by rw [hb]; decide)] at hg
          have HG := Lib.hid hg
          clear hg
          repeat first | refine lwp_seq fun K hK => ?_ | ((with_reducible refine gA ?_); apply_assumption -exfalso -symm) | refine gB ?_ | refine gC ?_ | refine gD ?_ | refine gE ?_ | refine gF rfl ?_ | refine gG rfl ?_ | refine gH ?_ | refine gI ?_ | refine gJ ?_ | refine gK ?_ | refine gL ?_ | refine lwp_region hC ⟨[], [], []⟩ (told0 _ _) rfl ⟨⟩ ?_ | refine lwp_region hC ⟨[], [], []⟩ (told0 _ _) rfl (by exact sd) ?_
          refine gA ⟨m + 1, ?_, ?_, sub_intro hm [(0, some 0), (1, some 1), (2, some 2)] rfl ?_⟩
          · exact ⟨by omega, HG.out⟩
          · omega
          · exact sd
      · have hle : h.2.toNat ≤ t.smp.length := by omega
        have hc := fl_slice t.smp h.1.toNat h.2.toNat hle
        simp only [AllL, All, cd_p, cp_p, cv_p]
        (repeat' refine And.intro ?_ ?_) <;> first | trivial | rfl | omega | exact hc.symm | exact hc | (simp; omega)
    · have e : holeR t = 0 := by
        rw [HR.out, HG.out, List.drop_of_length_le (by omega)]; rfl
      repeat first | refine lwp_seq fun K hK => ?_ | ((with_reducible refine gA ?_); apply_assumption -exfalso -symm) | refine gB ?_ | refine gC ?_ | refine gD ?_ | refine gE ?_ | refine gF rfl ?_ | refine gG rfl ?_ | refine gH ?_ | refine gI ?_ | refine gJ ?_ | refine gK ?_ | refine gL ?_ | refine lwp_region hC ⟨[], [], []⟩ (told0 _ _) rfl ⟨⟩ ?_ | refine lwp_region hC ⟨[], [], []⟩ (told0 _ _) rfl (by exact sd) ?_
      (refine end_intro (by first | exact .inr rfl | exact .inl rfl) [] rfl ?_)
      exact ⟨e, trivial⟩

def SRun_i (t : Rn) (σ : Ren) : Inst := { f := 113, hin := rnIn t, args := [rnA 0 1 t], hout := [], ret := i64 (runE t), σ := σ }
theorem runE_eq (t : Rn) : runE t = if headR t ≠ 0 then headR t else if bodyR t ≠ 0 then bodyR t else holeR t := rfl
theorem headR_ok {t : Rn} (h : headR t = 0) : nameOk t.name = true ∧ (0 ≤ t.first ∧ t.first ≤ 100000000) ∧ t.smp.length ≤ 4096 := by
  unfold headR at h
  rw [firstS_eq] at h
  have h1 := h (whenS (!nameOk t.name) 8) (by simp)
  have h2 := h (withinS t.first 0 100000000) (by simp)
  have h3 := h (whenS (decide (4096 < (t.smp.length : Int))) 5) (by simp)
  rw [whenS_eq _ _ (by decide)] at h1 h3
  rw [withinS_eq] at h2
  simp at h1 h3
  exact ⟨h1, h2, by omega⟩
set_option maxRecDepth 20000 in
set_option maxHeartbeats 4000000 in
theorem SRun_s (t : Rn) (σ : Ren) (hv : t.smp.length ≤ 100000) (hl : t.holes.length ≤ 100000) : (SRun_i t σ).ok Tryz.prog := by
  have HR := Lib.hid (runE_eq t)
  unfold SRun_i Inst.ok; dsimp only; refine spec_of_body (tys := tys) 2 Tryz.func113 (by kernel_rfl) rfl tys_ok rfl (Nat.le_of_ble_eq_true rfl) (fun _ _ h => (by cases h)) fun F hP hm hC hrd => ?_; conv => whnf
  repeat first | refine lwp_seq fun K hK => ?_ | ((with_reducible refine gA ?_); apply_assumption -exfalso -symm) | refine gB ?_ | refine gC ?_ | refine gD ?_ | refine gE ?_ | refine gF rfl ?_ | refine gG rfl ?_ | refine gH ?_ | refine gI ?_ | refine gJ ?_ | refine gK ?_ | refine gL ?_ | refine lwp_region hC ⟨[], [], []⟩ (told0 _ _) rfl ⟨⟩ ?_
  (refine lwp_drawn hC (by rw [hP]; exact mixed) ⟨[], [], [(2, SName_i t.name), (4, SWhen_i (!nameOk t.name) 8), (7, SWithin_i t.first 0 100000000), (12, SWhen_i (decide (4096 < (t.smp.length : Int))) 5), (14, SFirst_i [whenS (!nameOk t.name) 8, withinS t.first 0 100000000, whenS (decide (4096 < (t.smp.length : Int))) 5] [(0, some 3)])]⟩ (told1 _ (by rw [hP]; exact (calls_cons (SName_s _) (calls_cons (SWhen_s _ _) (calls_cons (SWithin_s _ _ _) (calls_cons (SWhen_s _ _) (calls_cons (SFirst_s _ _ (by simp)) calls_nil))))))) [0, 1, 3, 7, 15, 0, 32, 127, 0, 256, 768, 1792, 4095, 8191, 16383, 32767] 12 rfl ?_ ?_; rotate_left 1)
  · repeat first | refine lwp_seq fun K hK => ?_ | ((with_reducible refine gA ?_); apply_assumption -exfalso -symm) | refine gB ?_ | refine gC ?_ | refine gD ?_ | refine gE ?_ | refine gF rfl ?_ | refine gG rfl ?_ | refine gH ?_ | refine gI ?_ | refine gJ ?_ | refine gK ?_ | refine gL ?_ | refine lwp_region hC ⟨[], [], []⟩ (told0 _ _) rfl ⟨⟩ ?_ | refine lwp_region hC ⟨[], [], []⟩ (told0 _ _) rfl (by exact sd) ?_
    (refine lwp_cond hC rfl (by first | exact ⟨⟩ | exact sd) (fun hb => ?_) (fun hb => ?_) <;> (try simp only [decide_eq_true_eq, decide_eq_false_iff_not, Bool.not_eq_true', Bool.not_eq_false', ne_eq, Decidable.not_not] at hb))
    · have e : runE t = firstS [whenS (!nameOk t.name) 8, withinS t.first 0 100000000, whenS (decide (4096 < (t.smp.length : Int))) 5] := by
        have hb2 : headR t ≠ 0 := hb
        rw [HR.out, if_pos hb2]; rfl
      repeat first | refine lwp_seq fun K hK => ?_ | ((with_reducible refine gA ?_); apply_assumption -exfalso -symm) | refine gB ?_ | refine gC ?_ | refine gD ?_ | refine gE ?_ | refine gF rfl ?_ | refine gG rfl ?_ | refine gH ?_ | refine gI ?_ | refine gJ ?_ | refine gK ?_ | refine gL ?_ | refine lwp_region hC ⟨[], [], []⟩ (told0 _ _) rfl ⟨⟩ ?_ | refine lwp_region hC ⟨[], [], []⟩ (told0 _ _) rfl (by exact sd) ?_
      (refine end_intro (by first | exact .inr rfl | exact .inl rfl) [] rfl ?_)
      exact ⟨e, trivial⟩
    · have hb2 : headR t = 0 := by
        have h3 : ¬ headR t ≠ 0 := fun h => h hb
        exact Decidable.of_not_not h3
      have hr := HR.out
      rw [if_neg (by rw [hb2]; decide)] at hr
      have HR := Lib.hid hr
      obtain ⟨_, ⟨f0, f1⟩, f2⟩ := headR_ok hb2
      clear hr hb hb2
      repeat first | refine lwp_seq fun K hK => ?_ | ((with_reducible refine gA ?_); apply_assumption -exfalso -symm) | refine gB ?_ | refine gC ?_ | refine gD ?_ | refine gE ?_ | refine gF rfl ?_ | refine gG rfl ?_ | refine gH ?_ | refine gI ?_ | refine gJ ?_ | refine gK ?_ | refine gL ?_ | refine lwp_region hC ⟨[], [], []⟩ (told0 _ _) rfl ⟨⟩ ?_
      (refine lwp_drawn hC (by rw [hP]; exact mixed) ⟨[], [], [(2, FMapped_i t.smp [(0, some 0)]), (3, SFirst_i (t.smp.map partS) [(0, some 4)]), (11, SWhen_i (decide (100000000 < t.first + (t.smp.length : Int))) 4), (13, SFirst_i [firstS (t.smp.map partS), whenS (decide (100000000 < t.first + (t.smp.length : Int))) 4] [(0, some 5)])]⟩ (told1 _ (by rw [hP]; exact (calls_cons (FMapped_s _ _ hv) (calls_cons (SFirst_s _ _ (by rw [List.length_map]; omega)) (calls_cons (SWhen_s _ _) (calls_cons (SFirst_s _ _ (by simp)) calls_nil)))))) [0, 1, 3, 7, 0, 16, 0, 64, 192, 496, 1008, 2047, 4095, 8191, 16383] 11 rfl ?_ ?_; rotate_left 1)
      · repeat first | refine lwp_seq fun K hK => ?_ | ((with_reducible refine gA ?_); apply_assumption -exfalso -symm) | refine gB ?_ | refine gC ?_ | refine gD ?_ | refine gE ?_ | refine gF rfl ?_ | refine gG rfl ?_ | refine gH ?_ | refine gI ?_ | refine gJ ?_ | refine gK ?_ | refine gL ?_ | refine lwp_region hC ⟨[], [], []⟩ (told0 _ _) rfl ⟨⟩ ?_ | refine lwp_region hC ⟨[], [], []⟩ (told0 _ _) rfl (by exact sd) ?_
        (refine lwp_cond hC rfl (by first | exact ⟨⟩ | exact sd) (fun hb => ?_) (fun hb => ?_) <;> (try simp only [decide_eq_true_eq, decide_eq_false_iff_not, Bool.not_eq_true', Bool.not_eq_false', ne_eq, Decidable.not_not] at hb))
        · have e : runE t = firstS [firstS (t.smp.map partS), whenS (decide (100000000 < t.first + (t.smp.length : Int))) 4] := by
            have hb2 : bodyR t ≠ 0 := hb
            rw [HR.out, if_pos hb2]; rfl
          repeat first | refine lwp_seq fun K hK => ?_ | ((with_reducible refine gA ?_); apply_assumption -exfalso -symm) | refine gB ?_ | refine gC ?_ | refine gD ?_ | refine gE ?_ | refine gF rfl ?_ | refine gG rfl ?_ | refine gH ?_ | refine gI ?_ | refine gJ ?_ | refine gK ?_ | refine gL ?_ | refine lwp_region hC ⟨[], [], []⟩ (told0 _ _) rfl ⟨⟩ ?_ | refine lwp_region hC ⟨[], [], []⟩ (told0 _ _) rfl (by exact sd) ?_
          (refine end_intro (by first | exact .inr rfl | exact .inl rfl) [] rfl ?_)
          exact ⟨e, trivial⟩
        · have e : runE t = holeR t := by
            have h3 : ¬ bodyR t ≠ 0 := fun h => h hb
            rw [HR.out, if_neg h3]
          clear hb HR
          repeat first | refine lwp_seq fun K hK => ?_ | ((with_reducible refine gA ?_); apply_assumption -exfalso -symm) | refine gB ?_ | refine gC ?_ | refine gD ?_ | refine gE ?_ | refine gF rfl ?_ | refine gG rfl ?_ | refine gH ?_ | refine gI ?_ | refine gJ ?_ | refine gK ?_ | refine gL ?_ | refine lwp_region hC ⟨[], [], []⟩ (told0 _ _) rfl ⟨⟩ ?_
          (refine lwp_region hC ⟨[], [], [(1, SHoles_i t [(0, some 0), (1, some 1)])]⟩ (told1 _ (by rw [hP]; exact (calls_cons (SHoles_s _ _ hv hl) calls_nil))) rfl ?_ ?_; rotate_left 1)
          · repeat first | refine lwp_seq fun K hK => ?_ | ((with_reducible refine gA ?_); apply_assumption -exfalso -symm) | refine gB ?_ | refine gC ?_ | refine gD ?_ | refine gE ?_ | refine gF rfl ?_ | refine gG rfl ?_ | refine gH ?_ | refine gI ?_ | refine gJ ?_ | refine gK ?_ | refine gL ?_ | refine lwp_region hC ⟨[], [], []⟩ (told0 _ _) rfl ⟨⟩ ?_ | refine lwp_region hC ⟨[], [], []⟩ (told0 _ _) rfl (by exact sd) ?_
            (refine end_intro (by first | exact .inr rfl | exact .inl rfl) [] rfl ?_)
            exact ⟨e, trivial⟩
          · exact sd
      · simp only [AllL, All, cd_p, cp_p, cv_p, InK]
        (repeat' refine And.intro ?_ ?_) <;> first | trivial | rfl | omega | simp
  · exact sd

end Go.Proofs.YtoopgdchiljmiaaGreatDoor

namespace Go.Proofs.YtoopgdchiljmiaaGreatDoor
open Go.RowKit Go.Sym

def CkName_i (s : ByteArray) : Inst := { f := 120, hin := [], args := [.lit (.string s)], hout := [], ret := i64 (whenS (!nameOk s) 8), σ := [] }
theorem CkName_s (s : ByteArray) (hs : s.size ≤ 1000000) : (CkName_i s).ok Tryz.prog := by
  unfold CkName_i Inst.ok; dsimp only; refine spec_of_body (tys := tys) 0 Tryz.func120 (by kernel_rfl) rfl tys_ok rfl (Nat.le_of_ble_eq_true rfl) (fun _ _ h => (by cases h)) fun F hP hm hC hrd => ?_; conv => whnf
  repeat first | refine lwp_seq fun K hK => ?_ | ((with_reducible refine gA ?_); apply_assumption -exfalso -symm) | refine gB ?_ | refine gC ?_ | refine gD ?_ | refine gE ?_ | refine gF rfl ?_ | refine gG rfl ?_ | refine gH ?_ | refine gI ?_ | refine gJ ?_ | refine gK ?_ | refine gL ?_ | refine lwp_region hC ⟨[], [], []⟩ (told0 _ _) rfl ⟨⟩ ?_
  (refine lwp_region hC ⟨[], [], [(1, RName_i s), (3, When_i (!nameOk s) 8)]⟩ (told1 _ (by rw [hP]; exact (calls_cons (RName_s _ hs) (calls_cons (When_s _ _) calls_nil)))) rfl ?_ ?_; rotate_left 1)
  · repeat first | refine lwp_seq fun K hK => ?_ | ((with_reducible refine gA ?_); apply_assumption -exfalso -symm) | refine gB ?_ | refine gC ?_ | refine gD ?_ | refine gE ?_ | refine gF rfl ?_ | refine gG rfl ?_ | refine gH ?_ | refine gI ?_ | refine gJ ?_ | refine gK ?_ | refine gL ?_ | refine lwp_region hC ⟨[], [], []⟩ (told0 _ _) rfl ⟨⟩ ?_
    (refine end_intro (by first | exact .inr rfl | exact .inl rfl) [] rfl ?_)
    exact sd
  · exact sd
def RSamples_i (l : List Nat) (σ : Ren) : Inst := { f := 185, hin := [(0, .ro l.length 1 (flC l))], args := [.sl 0 l.length], hout := [], ret := i64 (firstS (l.map partS)), σ := σ }
set_option maxHeartbeats 2000000 in
theorem RSamples_s (l : List Nat) (σ : Ren) (hl : l.length ≤ 100000) : (RSamples_i l σ).ok Tryz.prog := by
  unfold RSamples_i Inst.ok; dsimp only; refine spec_of_body (tys := tys) 1 Tryz.func185 (by kernel_rfl) rfl tys_ok rfl (Nat.le_of_ble_eq_true rfl) (fun _ _ h => (by cases h)) fun F hP hm hC hrd => ?_; conv => whnf
  repeat first | refine lwp_seq fun K hK => ?_ | ((with_reducible refine gA ?_); apply_assumption -exfalso -symm) | refine gB ?_ | refine gC ?_ | refine gD ?_ | refine gE ?_ | refine gF rfl ?_ | refine gG rfl ?_ | refine gH ?_ | refine gI ?_ | refine gJ ?_ | refine gK ?_ | refine gL ?_ | refine lwp_region hC ⟨[], [], []⟩ (told0 _ _) rfl ⟨⟩ ?_
  refine lwp_loop (fun k : Nat => ⟨[(3, i64 k), (0, .sl 0 l.length)], [(0, .ro l.length 1 (flC l))], 1⟩) (fun k => k ≤ l.length ∧ firstS (l.map partS) = firstS ((l.drop k).map partS)) (fun k => l.length - k) 0 ⟨?_, sub_intro hm [(0, some 0)] rfl ?_⟩ ?_
  · exact ⟨Nat.zero_le _, rfl⟩
  · exact sd
  rintro k ⟨hk, hf⟩
  have hkk : ((k : Int)).toNat = k := Int.toNat_natCast k
  have HF := Lib.hid hf
  clear hf
  repeat first | refine lwp_seq fun K hK => ?_ | ((with_reducible refine gA ?_); apply_assumption -exfalso -symm) | refine gB ?_ | refine gC ?_ | refine gD ?_ | refine gE ?_ | refine gF rfl ?_ | refine gG rfl ?_ | refine gH ?_ | refine gI ?_ | refine gJ ?_ | refine gK ?_ | refine gL ?_ | refine lwp_region hC ⟨[], [], []⟩ (told0 _ _) rfl ⟨⟩ ?_
  (refine lwp_cond hC rfl (by first | exact ⟨⟩ | exact sd) (fun hb => ?_) (fun hb => ?_) <;> (try simp only [decide_eq_true_eq, decide_eq_false_iff_not, Bool.not_eq_true', Bool.not_eq_false', ne_eq, Decidable.not_not] at hb))
  · have hk2 : k < l.length := by omega
    have hd : (l.drop k).map partS = partS (l.getD k 0) :: (l.drop (k + 1)).map partS := by
      rw [List.drop_eq_getElem_cons hk2, List.map_cons, fl_get hk2]
    have hg := HF.out
    rw [hd, firstS] at hg
    have HF := Lib.hid hg
    clear hd hg
    repeat first | refine lwp_seq fun K hK => ?_ | ((with_reducible refine gA ?_); apply_assumption -exfalso -symm) | refine gB ?_ | refine gC ?_ | refine gD ?_ | refine gE ?_ | refine gF rfl ?_ | refine gG rfl ?_ | refine gH ?_ | refine gI ?_ | refine gJ ?_ | refine gK ?_ | refine gL ?_ | refine lwp_region hC ⟨[], [], []⟩ (told0 _ _) rfl ⟨⟩ ?_
    (refine lwp_region hC ⟨[], [], [(4, RSample_i (l.getD k 0))]⟩ (told1 _ (by rw [hP]; exact (calls_cons (RSample_s _) calls_nil))) rfl ?_ ?_; rotate_left 1)
    · repeat first | refine lwp_seq fun K hK => ?_ | ((with_reducible refine gA ?_); apply_assumption -exfalso -symm) | refine gB ?_ | refine gC ?_ | refine gD ?_ | refine gE ?_ | refine gF rfl ?_ | refine gG rfl ?_ | refine gH ?_ | refine gI ?_ | refine gJ ?_ | refine gK ?_ | refine gL ?_ | refine lwp_region hC ⟨[], [], []⟩ (told0 _ _) rfl ⟨⟩ ?_
      (refine lwp_cond hC rfl (by first | exact ⟨⟩ | exact sd) (fun hb => ?_) (fun hb => ?_) <;> (try simp only [decide_eq_true_eq, decide_eq_false_iff_not, Bool.not_eq_true', Bool.not_eq_false', ne_eq, Decidable.not_not] at hb))
      · have e : firstS (l.map partS) = partS (l.getD k 0) := by rw [HF.out, if_neg hb]
        repeat first | refine lwp_seq fun K hK => ?_ | ((with_reducible refine gA ?_); apply_assumption -exfalso -symm) | refine gB ?_ | refine gC ?_ | refine gD ?_ | refine gE ?_ | refine gF rfl ?_ | refine gG rfl ?_ | refine gH ?_ | refine gI ?_ | refine gJ ?_ | refine gK ?_ | refine gL ?_ | refine lwp_region hC ⟨[], [], []⟩ (told0 _ _) rfl ⟨⟩ ?_
        (refine end_intro (by first | exact .inr rfl | exact .inl rfl) [] rfl ?_)
        exact ⟨e, trivial⟩
      · have hg := HF.out
        rw [if_pos hb] at hg
        have HF := Lib.hid hg
        clear hg
        repeat first | refine lwp_seq fun K hK => ?_ | ((with_reducible refine gA ?_); apply_assumption -exfalso -symm) | refine gB ?_ | refine gC ?_ | refine gD ?_ | refine gE ?_ | refine gF rfl ?_ | refine gG rfl ?_ | refine gH ?_ | refine gI ?_ | refine gJ ?_ | refine gK ?_ | refine gL ?_ | refine lwp_region hC ⟨[], [], []⟩ (told0 _ _) rfl ⟨⟩ ?_ | refine lwp_region hC ⟨[], [], []⟩ (told0 _ _) rfl (by exact sd) ?_
        refine gA ⟨k + 1, ?_, ?_, sub_intro hm [(0, some 0)] rfl ?_⟩
        · exact ⟨by omega, HF.out⟩
        · omega
        · exact sd
    · exact sd
  · have e : firstS (l.map partS) = 0 := by rw [HF.out, List.drop_of_length_le (by omega)]; rfl
    repeat first | refine lwp_seq fun K hK => ?_ | ((with_reducible refine gA ?_); apply_assumption -exfalso -symm) | refine gB ?_ | refine gC ?_ | refine gD ?_ | refine gE ?_ | refine gF rfl ?_ | refine gG rfl ?_ | refine gH ?_ | refine gI ?_ | refine gJ ?_ | refine gK ?_ | refine gL ?_ | refine lwp_region hC ⟨[], [], []⟩ (told0 _ _) rfl ⟨⟩ ?_ | refine lwp_region hC ⟨[], [], []⟩ (told0 _ _) rfl (by exact sd) ?_
    (refine end_intro (by first | exact .inr rfl | exact .inl rfl) [] rfl ?_)
    exact ⟨e, trivial⟩
def RList_i (l : List Nat) (σ : Ren) : Inst := { f := 121, hin := [(0, .ro l.length 1 (flC l))], args := [.sl 0 l.length], hout := [], ret := i64 (firstS [whenS (decide (4096 < (l.length : Int))) 5, firstS (l.map partS)]), σ := σ }
theorem RList_s (l : List Nat) (σ : Ren) (hl : l.length ≤ 100000) : (RList_i l σ).ok Tryz.prog := by
  unfold RList_i Inst.ok; dsimp only; refine spec_of_body (tys := tys) 1 Tryz.func121 (by kernel_rfl) rfl tys_ok rfl (Nat.le_of_ble_eq_true rfl) (fun _ _ h => (by cases h)) fun F hP hm hC hrd => ?_; conv => whnf
  repeat first | refine lwp_seq fun K hK => ?_ | ((with_reducible refine gA ?_); apply_assumption -exfalso -symm) | refine gB ?_ | refine gC ?_ | refine gD ?_ | refine gE ?_ | refine gF rfl ?_ | refine gG rfl ?_ | refine gH ?_ | refine gI ?_ | refine gJ ?_ | refine gK ?_ | refine gL ?_ | refine lwp_region hC ⟨[], [], []⟩ (told0 _ _) rfl ⟨⟩ ?_
  (refine lwp_region hC ⟨[], [], [(3, When_i (decide (4096 < (l.length : Int))) 5), (5, RSamples_i l [(0, some 0)]), (7, First_i [whenS (decide (4096 < (l.length : Int))) 5, firstS (l.map partS)] [(0, some 1)])]⟩ (told1 _ (by rw [hP]; exact (calls_cons (When_s _ _) (calls_cons (RSamples_s _ _ hl) (calls_cons (First_s _ _ (by simp)) calls_nil))))) rfl ?_ ?_; rotate_left 1)
  · repeat first | refine lwp_seq fun K hK => ?_ | ((with_reducible refine gA ?_); apply_assumption -exfalso -symm) | refine gB ?_ | refine gC ?_ | refine gD ?_ | refine gE ?_ | refine gF rfl ?_ | refine gG rfl ?_ | refine gH ?_ | refine gI ?_ | refine gJ ?_ | refine gK ?_ | refine gL ?_ | refine lwp_region hC ⟨[], [], []⟩ (told0 _ _) rfl ⟨⟩ ?_
    (refine end_intro (by first | exact .inr rfl | exact .inl rfl) [] rfl ?_)
    exact sd
  · exact sd
def CkSpan_i (a b n : Int) : Inst := { f := 217, hin := [], args := [.agg [i64 a, i64 b], i64 n], hout := [], ret := i64 (whenS (decide (a < 0) || decide (b < a) || decide (n < b)) 14), σ := [] }
theorem CkSpan_s (a b n : Int) : (CkSpan_i a b n).ok Tryz.prog := by
  unfold CkSpan_i Inst.ok; dsimp only; refine spec_of_body (tys := tys) 0 Tryz.func217 (by kernel_rfl) rfl tys_ok rfl (Nat.le_of_ble_eq_true rfl) (fun _ _ h => (by cases h)) fun F hP hm hC hrd => ?_; conv => whnf
  repeat first | refine lwp_seq fun K hK => ?_ | ((with_reducible refine gA ?_); apply_assumption -exfalso -symm) | refine gB ?_ | refine gC ?_ | refine gD ?_ | refine gE ?_ | refine gF rfl ?_ | refine gG rfl ?_ | refine gH ?_ | refine gI ?_ | refine gJ ?_ | refine gK ?_ | refine gL ?_ | refine lwp_region hC ⟨[], [], []⟩ (told0 _ _) rfl ⟨⟩ ?_
  (refine lwp_region hC ⟨[], [], [(16, When_i (decide (a < 0) || decide (b < a) || decide (n < b)) 14)]⟩ (told1 _ (by rw [hP]; exact (calls_cons (When_s _ _) calls_nil))) rfl ?_ ?_; rotate_left 1)
  · repeat first | refine lwp_seq fun K hK => ?_ | ((with_reducible refine gA ?_); apply_assumption -exfalso -symm) | refine gB ?_ | refine gC ?_ | refine gD ?_ | refine gE ?_ | refine gF rfl ?_ | refine gG rfl ?_ | refine gH ?_ | refine gI ?_ | refine gJ ?_ | refine gK ?_ | refine gL ?_ | refine lwp_region hC ⟨[], [], []⟩ (told0 _ _) rfl ⟨⟩ ?_
    (refine end_intro (by first | exact .inr rfl | exact .inl rfl) [] rfl ?_)
    exact sd
  · refine ⟨⟨rfl, ?_, trivial⟩, ?_⟩
    · show (decide (a < 0) || decide (b < a) || decide (n < b)) = _
      rw [bif_or, bif_or]
    · simp only [AllL, All, cp_p, cd_p]
      generalize decide (a < 0) = p
      generalize decide (b < a) = q
      revert p q
      decide
theorem full_eq (a b n : Int) : firstS [whenS (decide (a < 0) || decide (b < a) || decide (n < b)) 14, whenS (decide (a = b)) 14] = spanS n (a, b) := by
  unfold spanS whenS
  simp only [firstS]
  by_cases h1 : a < 0 <;> by_cases h2 : b < a <;> by_cases h3 : n < b <;> by_cases h4 : a = b <;> simp [h1, h2, h3, h4] <;> omega
def CkFull_i (a b n : Int) : Inst := { f := 186, hin := [], args := [.agg [i64 a, i64 b], i64 n], hout := [], ret := i64 (spanS n (a, b)), σ := [] }
theorem CkFull_s (a b n : Int) : (CkFull_i a b n).ok Tryz.prog := by
  have e := full_eq a b n
  have HE := Lib.hid e
  clear e
  unfold CkFull_i Inst.ok; dsimp only; refine spec_of_body (tys := tys) 0 Tryz.func186 (by kernel_rfl) rfl tys_ok rfl (Nat.le_of_ble_eq_true rfl) (fun _ _ h => (by cases h)) fun F hP hm hC hrd => ?_; conv => whnf
  repeat first | refine lwp_seq fun K hK => ?_ | ((with_reducible refine gA ?_); apply_assumption -exfalso -symm) | refine gB ?_ | refine gC ?_ | refine gD ?_ | refine gE ?_ | refine gF rfl ?_ | refine gG rfl ?_ | refine gH ?_ | refine gI ?_ | refine gJ ?_ | refine gK ?_ | refine gL ?_ | refine lwp_region hC ⟨[], [], []⟩ (told0 _ _) rfl ⟨⟩ ?_
  (refine lwp_drawn hC (by rw [hP]; exact mixed) ⟨[], [], [(2, CkSpan_i a b n), (8, When_i (decide (a = b)) 14), (10, First_i [whenS (decide (a < 0) || decide (b < a) || decide (n < b)) 14, whenS (decide (a = b)) 14] [(0, some 1)])]⟩ (told1 _ (by rw [hP]; exact (calls_cons (CkSpan_s _ _ _) (calls_cons (When_s _ _) (calls_cons (First_s _ _ (by simp)) calls_nil))))) [0, 0, 3, 0, 8, 0, 32, 120, 255, 511, 1023, 2047] 8 rfl ?_ ?_; rotate_left 1)
  · repeat first | refine lwp_seq fun K hK => ?_ | ((with_reducible refine gA ?_); apply_assumption -exfalso -symm) | refine gB ?_ | refine gC ?_ | refine gD ?_ | refine gE ?_ | refine gF rfl ?_ | refine gG rfl ?_ | refine gH ?_ | refine gI ?_ | refine gJ ?_ | refine gK ?_ | refine gL ?_ | refine lwp_region hC ⟨[], [], []⟩ (told0 _ _) rfl ⟨⟩ ?_
    (refine end_intro (by first | exact .inr rfl | exact .inl rfl) [] rfl ?_)
    exact ⟨HE.out.symm, trivial⟩
  · exact sd

/-- What the test of a hole against the one before says. -/
def befB (hs : List (Int × Int)) (j : Nat) : Bool := bif decide ((0 : Int) < (j : Int)) then decide ((hs.getD j (0, 0)).1 ≤ (hs.getD (if ((j : Int) - 1) > 0 then ((j : Int) - 1) else 0).toNat (0, 0)).2) else false
theorem befB_eq (n : Int) (hs : List (Int × Int)) (j : Nat) : firstS [spanS n (hs.getD j (0, 0)), whenS (befB hs j) 11] = holeS n (lastH hs j) (hs.getD j (0, 0)) := by
  unfold holeS befB lastH
  by_cases h0 : j = 0
  · subst h0
    by_cases h1 : (hs.getD 0 (0, 0)).1 < 0
    · have : spanS n (hs.getD 0 (0, 0)) = 14 := by unfold spanS whenS; rw [decide_eq_true h1]; rfl
      rw [this]
      rfl
    · have h2 : ¬ (hs.getD 0 (0, 0)).1 ≤ -1 := by omega
      rw [if_pos rfl, decide_eq_false h2]
      rfl
  · have e1 : decide ((0 : Int) < (j : Int)) = true := by simp; omega
    have e2 : (if ((j : Int) - 1) > 0 then ((j : Int) - 1) else 0).toNat = j - 1 := by split <;> omega
    rw [e1, e2, if_neg h0]
    rfl
def CkHoles_i (hs : List (Int × Int)) (n : Int) (σ : Ren) : Inst := { f := 122, hin := [(0, .ro hs.length 2 (spC hs))], args := [.sl 0 hs.length, i64 n], hout := [], ret := i64 (holesS n (-1) hs), σ := σ }
set_option maxRecDepth 20000 in
set_option maxHeartbeats 4000000 in
theorem CkHoles_s (hs : List (Int × Int)) (n : Int) (σ : Ren) (hl : hs.length ≤ 100000) : (CkHoles_i hs n σ).ok Tryz.prog := by
  unfold CkHoles_i Inst.ok; dsimp only; refine spec_of_body (tys := tys) 1 Tryz.func122 (by kernel_rfl) rfl tys_ok rfl (Nat.le_of_ble_eq_true rfl) (fun _ _ h => (by cases h)) fun F hP hm hC hrd => ?_; conv => whnf
  repeat first | refine lwp_seq fun K hK => ?_ | ((with_reducible refine gA ?_); apply_assumption -exfalso -symm) | refine gB ?_ | refine gC ?_ | refine gD ?_ | refine gE ?_ | refine gF rfl ?_ | refine gG rfl ?_ | refine gH ?_ | refine gI ?_ | refine gJ ?_ | refine gK ?_ | refine gL ?_ | refine lwp_region hC ⟨[], [], []⟩ (told0 _ _) rfl ⟨⟩ ?_
  refine lwp_loop (fun k : Nat => ⟨[(5, i64 k), (0, .sl 0 hs.length), (1, i64 n)], [(0, .ro hs.length 2 (spC hs))], 1⟩) (fun k => k ≤ hs.length ∧ holesS n (-1) hs = holesS n (lastH hs k) (hs.drop k)) (fun k => hs.length - k) 0 ⟨?_, sub_intro hm [(0, some 0)] rfl ?_⟩ ?_
  · exact ⟨Nat.zero_le _, rfl⟩
  · exact sd
  rintro j ⟨hj, hg⟩
  have hjj : ((j : Int)).toNat = j := Int.toNat_natCast j
  have HG := Lib.hid hg
  clear hg
  repeat first | refine lwp_seq fun K hK => ?_ | ((with_reducible refine gA ?_); apply_assumption -exfalso -symm) | refine gB ?_ | refine gC ?_ | refine gD ?_ | refine gE ?_ | refine gF rfl ?_ | refine gG rfl ?_ | refine gH ?_ | refine gI ?_ | refine gJ ?_ | refine gK ?_ | refine gL ?_ | refine lwp_region hC ⟨[], [], []⟩ (told0 _ _) rfl ⟨⟩ ?_
  (refine lwp_cond hC rfl (by first | exact ⟨⟩ | exact sd) (fun hb => ?_) (fun hb => ?_) <;> (try simp only [decide_eq_true_eq, decide_eq_false_iff_not, Bool.not_eq_true', Bool.not_eq_false', ne_eq, Decidable.not_not] at hb))
  · have hj2 : j < hs.length := by omega
    have hg := HG.out
    rw [holesS_step _ _ _ _ hj2] at hg
    have HG := Lib.hid hg
    have HB := Lib.hid (befB_eq n hs j)
    clear hg
    repeat first | refine lwp_seq fun K hK => ?_ | ((with_reducible refine gA ?_); apply_assumption -exfalso -symm) | refine gB ?_ | refine gC ?_ | refine gD ?_ | refine gE ?_ | refine gF rfl ?_ | refine gG rfl ?_ | refine gH ?_ | refine gI ?_ | refine gJ ?_ | refine gK ?_ | refine gL ?_ | refine lwp_region hC ⟨[], [], []⟩ (told0 _ _) rfl ⟨⟩ ?_
    (refine lwp_drawn2 hC (by rw [hP]; exact mixed) ⟨[], [], [(5, CkFull_i (hs.getD j (0, 0)).1 (hs.getD j (0, 0)).2 n), (23, When_i (befB hs j) 11), (25, First_i [spanS n (hs.getD j (0, 0)), whenS (befB hs j) 11] [(0, some 1)])]⟩ (told1 _ (by rw [hP]; exact (calls_cons (CkFull_s _ _ _) (calls_cons (When_s _ _) (calls_cons (First_s _ _ (by simp)) calls_nil))))) [0, 0, 3, 7, 0, 31, 0, 64, 255, 511, 511, 2047, 4095, 8191, 511, 511, 33279, 98815, 246271, 508415, 1032703, 2097151, 4194303, 8388607, 16777215, 33554431, 67108863] 27 0 rfl ?_ ?_; rotate_left 1)
    · repeat first | refine lwp_seq fun K hK => ?_ | ((with_reducible refine gA ?_); apply_assumption -exfalso -symm) | refine gB ?_ | refine gC ?_ | refine gD ?_ | refine gE ?_ | refine gF rfl ?_ | refine gG rfl ?_ | refine gH ?_ | refine gI ?_ | refine gJ ?_ | refine gK ?_ | refine gL ?_ | refine lwp_region hC ⟨[], [], []⟩ (told0 _ _) rfl ⟨⟩ ?_
      (refine lwp_cond hC rfl (by first | exact ⟨⟩ | exact sd) (fun hb => ?_) (fun hb => ?_) <;> (try simp only [decide_eq_true_eq, decide_eq_false_iff_not, Bool.not_eq_true', Bool.not_eq_false', ne_eq, Decidable.not_not] at hb))
      · have hb2 : holeS n (lastH hs j) (hs.getD j (0, 0)) ≠ 0 := by rw [← HB.out]; exact hb
        have e : holesS n (-1) hs = firstS [spanS n (hs.getD j (0, 0)), whenS (befB hs j) 11] := by rw [HG.out, if_pos hb2, HB.out]
        repeat first | refine lwp_seq fun K hK => ?_ | ((with_reducible refine gA ?_); apply_assumption -exfalso -symm) | refine gB ?_ | refine gC ?_ | refine gD ?_ | refine gE ?_ | refine gF rfl ?_ | refine gG rfl ?_ | refine gH ?_ | refine gI ?_ | refine gJ ?_ | refine gK ?_ | refine gL ?_ | refine lwp_region hC ⟨[], [], []⟩ (told0 _ _) rfl ⟨⟩ ?_
        (refine end_intro (by first | exact .inr rfl | exact .inl rfl) [] rfl ?_)
        exact ⟨e, trivial⟩
      · have hb2 : ¬ holeS n (lastH hs j) (hs.getD j (0, 0)) ≠ 0 := by rw [← HB.out]; exact fun h => h hb
        have hg := HG.out
        rw [if_neg hb2] at hg
        have HG := Lib.hid hg
        clear hg hb hb2
        repeat first | refine lwp_seq fun K hK => ?_ | ((with_reducible refine gA ?_); apply_assumption -exfalso -symm) | refine gB ?_ | refine gC ?_ | refine gD ?_ | refine gE ?_ | refine gF rfl ?_ | refine gG rfl ?_ | refine gH ?_ | refine gI ?_ | refine gJ ?_ | refine gK ?_ | refine gL ?_ | refine lwp_region hC ⟨[], [], []⟩ (told0 _ _) rfl ⟨⟩ ?_ | refine lwp_region hC ⟨[], [], []⟩ (told0 _ _) rfl (by exact sd) ?_
        refine gA ⟨j + 1, ?_, ?_, sub_intro hm [(0, some 0)] rfl ?_⟩
        · exact ⟨by omega, HG.out⟩
        · omega
        · exact sd
    · simp only [AllL, All, cd_p, cp_p, cv_p, InK, hjj, decide_eq_true_eq]
      unfold befB
      (repeat' (first | refine And.intro ?_ ?_ | intro _)) <;> first | trivial | rfl | omega | assumption | (split <;> omega) | simp
  · have e : holesS n (-1) hs = 0 := by rw [HG.out, List.drop_of_length_le (by omega)]; rfl
    repeat first | refine lwp_seq fun K hK => ?_ | ((with_reducible refine gA ?_); apply_assumption -exfalso -symm) | refine gB ?_ | refine gC ?_ | refine gD ?_ | refine gE ?_ | refine gF rfl ?_ | refine gG rfl ?_ | refine gH ?_ | refine gI ?_ | refine gJ ?_ | refine gK ?_ | refine gL ?_ | refine lwp_region hC ⟨[], [], []⟩ (told0 _ _) rfl ⟨⟩ ?_ | refine lwp_region hC ⟨[], [], []⟩ (told0 _ _) rfl (by exact sd) ?_
    (refine end_intro (by first | exact .inr rfl | exact .inl rfl) [] rfl ?_)
    exact ⟨e, trivial⟩

def RIsKnown_i (t : Rn) (i : Int) (σ : Ren) : Inst := { f := 67, hin := rnIn t, args := [rnA 0 1 t, i64 i], hout := [], ret := bl (knownB t.holes i), σ := σ }
theorem RIsKnown_s (t : Rn) (i : Int) (σ : Ren) (hl : t.holes.length ≤ 100000) : (RIsKnown_i t i σ).ok Tryz.prog := by
  unfold RIsKnown_i Inst.ok; dsimp only; refine spec_of_body (tys := tys) 2 Tryz.func67 (by kernel_rfl) rfl tys_ok rfl (Nat.le_of_ble_eq_true rfl) (fun _ _ h => (by cases h)) fun F hP hm hC hrd => ?_; conv => whnf
  repeat first | refine lwp_seq fun K hK => ?_ | ((with_reducible refine gA ?_); apply_assumption -exfalso -symm) | refine gB ?_ | refine gC ?_ | refine gD ?_ | refine gE ?_ | refine gF rfl ?_ | refine gG rfl ?_ | refine gH ?_ | refine gI ?_ | refine gJ ?_ | refine gK ?_ | refine gL ?_ | refine lwp_region hC ⟨[], [], []⟩ (told0 _ _) rfl ⟨⟩ ?_ | refine lwp_region hC ⟨[], [], []⟩ (told0 _ _) rfl (by exact sd) ?_
  refine lwp_loop (fun k : Nat => ⟨[(5, i64 k), (2, .ptr 2 0 0 0), (1, i64 i)], [(2, .blk 69 [.lit (.string t.name), i64 t.first, .sl 0 t.smp.length, .sl 1 t.holes.length]), (0, .ro t.smp.length 1 (flC t.smp)), (1, .ro t.holes.length 2 (spC t.holes))], 3⟩) (fun k => k ≤ t.holes.length ∧ knownB t.holes i = knownB (t.holes.drop k) i) (fun k => t.holes.length - k) 0 ⟨?_, sub_intro hm [(0, some 0), (1, some 1), (2, some 2)] rfl ?_⟩ ?_
  · exact ⟨Nat.zero_le _, rfl⟩
  · exact sd
  · rintro k ⟨hk, hf⟩
    repeat first | refine lwp_seq fun K hK => ?_ | ((with_reducible refine gA ?_); apply_assumption -exfalso -symm) | refine gB ?_ | refine gC ?_ | refine gD ?_ | refine gE ?_ | refine gF rfl ?_ | refine gG rfl ?_ | refine gH ?_ | refine gI ?_ | refine gJ ?_ | refine gK ?_ | refine gL ?_ | refine lwp_region hC ⟨[], [], []⟩ (told0 _ _) rfl ⟨⟩ ?_ | refine lwp_region hC ⟨[], [], []⟩ (told0 _ _) rfl (by exact sd) ?_
    (refine lwp_cond hC rfl (by first | exact ⟨⟩ | exact sd) (fun hb => ?_) (fun hb => ?_) <;> (try simp only [decide_eq_true_eq, decide_eq_false_iff_not, Bool.not_eq_true', Bool.not_eq_false', ne_eq, Decidable.not_not] at hb))
    · repeat first | refine lwp_seq fun K hK => ?_ | ((with_reducible refine gA ?_); apply_assumption -exfalso -symm) | refine gB ?_ | refine gC ?_ | refine gD ?_ | refine gE ?_ | refine gF rfl ?_ | refine gG rfl ?_ | refine gH ?_ | refine gI ?_ | refine gJ ?_ | refine gK ?_ | refine gL ?_ | refine lwp_region hC ⟨[], [], []⟩ (told0 _ _) rfl ⟨⟩ ?_ | refine lwp_region hC ⟨[], [], []⟩ (told0 _ _) rfl (by exact sd) ?_
      (refine lwp_cond hC rfl (by first | exact ⟨⟩ | exact sd) (fun hb => ?_) (fun hb => ?_) <;> (try simp only [decide_eq_true_eq, decide_eq_false_iff_not, Bool.not_eq_true', Bool.not_eq_false', ne_eq, Decidable.not_not] at hb))
      · repeat first | refine lwp_seq fun K hK => ?_ | ((with_reducible refine gA ?_); apply_assumption -exfalso -symm) | refine gB ?_ | refine gC ?_ | refine gD ?_ | refine gE ?_ | refine gF rfl ?_ | refine gG rfl ?_ | refine gH ?_ | refine gI ?_ | refine gJ ?_ | refine gK ?_ | refine gL ?_ | refine lwp_region hC ⟨[], [], []⟩ (told0 _ _) rfl ⟨⟩ ?_ | refine lwp_region hC ⟨[], [], []⟩ (told0 _ _) rfl (by exact sd) ?_
        (refine end_intro (by first | exact .inr rfl | exact .inl rfl) [] rfl ?_)
        refine ⟨?_, trivial⟩
        rw [hf, knownB_drop _ _ (by omega)]
        simp only [Int.toNat_natCast, bif_and] at hb
        rw [hb]; rfl
      · repeat first | refine lwp_seq fun K hK => ?_ | ((with_reducible refine gA ?_); apply_assumption -exfalso -symm) | refine gB ?_ | refine gC ?_ | refine gD ?_ | refine gE ?_ | refine gF rfl ?_ | refine gG rfl ?_ | refine gH ?_ | refine gI ?_ | refine gJ ?_ | refine gK ?_ | refine gL ?_ | refine lwp_region hC ⟨[], [], []⟩ (told0 _ _) rfl ⟨⟩ ?_ | refine lwp_region hC ⟨[], [], []⟩ (told0 _ _) rfl (by exact sd) ?_
        refine gA ⟨k + 1, ?_, ?_, sub_intro hm [(0, some 0), (1, some 1), (2, some 2)] rfl ?_⟩
        · refine ⟨by omega, ?_⟩
          rw [hf, knownB_drop _ _ (by omega)]
          simp only [Int.toNat_natCast, bif_and] at hb
          rw [hb]; simp
        · omega
        · exact sd
    · repeat first | refine lwp_seq fun K hK => ?_ | ((with_reducible refine gA ?_); apply_assumption -exfalso -symm) | refine gB ?_ | refine gC ?_ | refine gD ?_ | refine gE ?_ | refine gF rfl ?_ | refine gG rfl ?_ | refine gH ?_ | refine gI ?_ | refine gJ ?_ | refine gK ?_ | refine gL ?_ | refine lwp_region hC ⟨[], [], []⟩ (told0 _ _) rfl ⟨⟩ ?_ | refine lwp_region hC ⟨[], [], []⟩ (told0 _ _) rfl (by exact sd) ?_
      (refine end_intro (by first | exact .inr rfl | exact .inl rfl) [] rfl ?_)
      refine ⟨?_, trivial⟩
      rw [hf, List.drop_of_length_le (by omega)]
      rfl

/-- What the test of a run's end says. -/
def largeB (t : Rn) : Bool := bif decide (100000000 - (t.smp.length : Int) < t.first) then decide ((t.smp.length : Int) ≤ 4096) else false
def headF (t : Rn) : Int := firstS [whenS (!nameOk t.name) 8, withinS t.first 0 100000000, firstS [whenS (decide (4096 < (t.smp.length : Int))) 5, firstS (t.smp.map partS)], whenS (largeB t) 4]
theorem headF_eq (t : Rn) : runE t = if headF t ≠ 0 then headF t else holeR t := by
  have e : headF t = if headR t ≠ 0 then headR t else bodyR t := by
    have h5 : decide (4096 < (t.smp.length : Int)) = false → whenS (largeB t) 4 = whenS (decide (100000000 < t.first + (t.smp.length : Int))) 4 := by
      intro h
      have h : ¬ 4096 < (t.smp.length : Int) := of_decide_eq_false h
      congr 1
      unfold largeB
      rw [show decide ((t.smp.length : Int) ≤ 4096) = true from decide_eq_true (by omega)]
      by_cases h2 : 100000000 < t.first + (t.smp.length : Int)
      · rw [decide_eq_true h2, decide_eq_true (show 100000000 - (t.smp.length : Int) < t.first by omega)]; rfl
      · rw [decide_eq_false h2, decide_eq_false (show ¬ 100000000 - (t.smp.length : Int) < t.first by omega)]; rfl
    unfold headF headR bodyR
    generalize withinS t.first 0 100000000 = B
    generalize firstS (t.smp.map partS) = S
    cases h4 : decide (4096 < (t.smp.length : Int)) with
    | true =>
      have ew : whenS true 5 = 5 := rfl
      rw [ew]
      generalize whenS (!nameOk t.name) 8 = A
      simp only [firstS]
      by_cases hA : A = 0 <;> by_cases hB : B = 0 <;> simp [hA, hB]
    | false =>
      rw [h5 h4]
      have ew : whenS false 5 = 0 := rfl
      rw [ew]
      generalize whenS (!nameOk t.name) 8 = A
      simp only [firstS]
      by_cases hA : A = 0 <;> by_cases hB : B = 0 <;> by_cases hS : S = 0 <;> simp [hA, hB, hS]
  rw [runE_eq, e]
  by_cases h : headR t = 0
  · rw [if_neg (fun x => x h), show (if headR t ≠ 0 then headR t else bodyR t) = bodyR t from if_neg (fun x => x h)]
  · rw [if_pos h, if_pos h, if_pos h]
theorem nzF_ne (b : Nat) : nzF b ≠ 0 ↔ nzB b = true := by
  unfold nzF nzB
  cases Op.floatEq .f32 b 0 <;> simp
theorem nz_get (l : List Nat) (i : Nat) (h : i < l.length) : (l.map nzF).getD i 0 = nzF (l.getD i 0) := by
  simp [List.getD_eq_getElem?_getD, List.getElem?_eq_getElem h]
theorem formR_eq (t : Rn) (hok : HolesOk t.smp.length t.holes) : (formS (t.smp.map nzF) t.holes = 1 ∨ formS (t.smp.map nzF) t.holes = 0) ∧ (formS (t.smp.map nzF) t.holes = 1 ↔ ∃ i : Nat, i < t.smp.length ∧ nzB (t.smp.getD i 0) = true ∧ knownB t.holes i = false) := by
  obtain ⟨h1, h2⟩ := formS_eq (t.smp.map nzF) t.holes (by rw [List.length_map]; exact hok)
  refine ⟨h1, h2.trans ⟨fun ⟨i, a, b, c⟩ => ?_, fun ⟨i, a, b, c⟩ => ?_⟩⟩
  · rw [List.length_map] at a
    rw [nz_get _ _ a, nzF_ne] at b
    exact ⟨i, a, b, c⟩
  · exact ⟨i, by rw [List.length_map]; exact a, by rw [nz_get _ _ a, nzF_ne]; exact b, c⟩
def NoBadR (t : Rn) (k : Nat) : Prop := ∀ i : Nat, i < k → ¬ (nzB (t.smp.getD i 0) = true ∧ knownB t.holes i = false)
def RRun_i (t : Rn) (σ : Ren) : Inst := { f := 43, hin := rnIn t, args := [rnA 0 1 t], hout := [], ret := i64 (runE t), σ := σ }
def ctQ (t : Rn) : List (Nat × Chunk) := [(2, .blk 69 [.lit (.string t.name), i64 t.first, .sl 0 t.smp.length, .sl 1 t.holes.length]), (0, .ro t.smp.length 1 (flC t.smp)), (1, .ro t.holes.length 2 (spC t.holes))]
set_option maxRecDepth 20000 in
set_option maxHeartbeats 4000000 in
theorem RRun_s (t : Rn) (σ : Ren) (hn : t.name.size ≤ 1000000) (hv : t.smp.length ≤ 100000) (hl : t.holes.length ≤ 100000) : (RRun_i t σ).ok Tryz.prog := by
  have HR := Lib.hid (headF_eq t)
  unfold RRun_i Inst.ok; dsimp only; refine spec_of_body (tys := tys) 2 Tryz.func43 (by kernel_rfl) rfl tys_ok rfl (Nat.le_of_ble_eq_true rfl) (fun _ _ h => (by cases h)) fun F hP hm hC hrd => ?_; conv => whnf
  repeat first | refine lwp_seq fun K hK => ?_ | ((with_reducible refine gA ?_); apply_assumption -exfalso -symm) | refine gB ?_ | refine gC ?_ | refine gD ?_ | refine gE ?_ | refine gF rfl ?_ | refine gG rfl ?_ | refine gH ?_ | refine gI ?_ | refine gJ ?_ | refine gK ?_ | refine gL ?_ | refine lwp_region hC ⟨[], [], []⟩ (told0 _ _) rfl ⟨⟩ ?_
  (refine lwp_drawn2 hC (by rw [hP]; exact mixed) ⟨[], [], [(2, CkName_i t.name), (5, CheckRange_i t.first 0 100000000), (8, RList_i t.smp [(0, some 0)]), (22, When_i (largeB t) 4), (24, First_i [whenS (!nameOk t.name) 8, withinS t.first 0 100000000, firstS [whenS (decide (4096 < (t.smp.length : Int))) 5, firstS (t.smp.map partS)], whenS (largeB t) 4] [(0, some 3)])]⟩ (told1 _ (by rw [hP]; exact (calls_cons (CkName_s _ hn) (calls_cons (CheckRange_s _ _ _) (calls_cons (RList_s _ _ hv) (calls_cons (When_s _ _) (calls_cons (First_s _ _ (by simp)) calls_nil))))))) [0, 1, 3, 0, 8, 31, 0, 64, 255, 0, 512, 0, 2048, 6144, 14336, 32256, 65535, 131071, 262143, 524287, 1048575, 2097151, 4194303, 8388607, 16777215, 33554431] 26 0 rfl ?_ ?_; rotate_left 1)
  · repeat first | refine lwp_seq fun K hK => ?_ | ((with_reducible refine gA ?_); apply_assumption -exfalso -symm) | refine gB ?_ | refine gC ?_ | refine gD ?_ | refine gE ?_ | refine gF rfl ?_ | refine gG rfl ?_ | refine gH ?_ | refine gI ?_ | refine gJ ?_ | refine gK ?_ | refine gL ?_ | refine lwp_region hC ⟨[], [], []⟩ (told0 _ _) rfl ⟨⟩ ?_
    (refine lwp_cond hC rfl (by first | exact ⟨⟩ | exact sd) (fun hb => ?_) (fun hb => ?_) <;> (try simp only [decide_eq_true_eq, decide_eq_false_iff_not, Bool.not_eq_true', Bool.not_eq_false', ne_eq, Decidable.not_not] at hb))
    · have hb2 : headF t ≠ 0 := hb
      have e : runE t = firstS [whenS (!nameOk t.name) 8, withinS t.first 0 100000000, firstS [whenS (decide (4096 < (t.smp.length : Int))) 5, firstS (t.smp.map partS)], whenS (largeB t) 4] := by rw [HR.out, if_pos hb2]; rfl
      repeat first | refine lwp_seq fun K hK => ?_ | ((with_reducible refine gA ?_); apply_assumption -exfalso -symm) | refine gB ?_ | refine gC ?_ | refine gD ?_ | refine gE ?_ | refine gF rfl ?_ | refine gG rfl ?_ | refine gH ?_ | refine gI ?_ | refine gJ ?_ | refine gK ?_ | refine gL ?_ | refine lwp_region hC ⟨[], [], []⟩ (told0 _ _) rfl ⟨⟩ ?_
      (refine end_intro (by first | exact .inr rfl | exact .inl rfl) [] rfl ?_)
      exact ⟨e, trivial⟩
    · have hb2 : ¬ headF t ≠ 0 := fun h => h hb
      have hr := HR.out
      rw [if_neg hb2] at hr
      have HR := Lib.hid hr
      clear hr hb hb2
      repeat first | refine lwp_seq fun K hK => ?_ | ((with_reducible refine gA ?_); apply_assumption -exfalso -symm) | refine gB ?_ | refine gC ?_ | refine gD ?_ | refine gE ?_ | refine gF rfl ?_ | refine gG rfl ?_ | refine gH ?_ | refine gI ?_ | refine gJ ?_ | refine gK ?_ | refine gL ?_ | refine lwp_region hC ⟨[], [], []⟩ (told0 _ _) rfl ⟨⟩ ?_
      (refine lwp_region hC ⟨[], [], [(5, CkHoles_i t.holes t.smp.length [(0, some 1)])]⟩ (told1 _ (by rw [hP]; exact (calls_cons (CkHoles_s _ _ _ hl) calls_nil))) rfl ?_ ?_; rotate_left 1)
      · repeat first | refine lwp_seq fun K hK => ?_ | ((with_reducible refine gA ?_); apply_assumption -exfalso -symm) | refine gB ?_ | refine gC ?_ | refine gD ?_ | refine gE ?_ | refine gF rfl ?_ | refine gG rfl ?_ | refine gH ?_ | refine gI ?_ | refine gJ ?_ | refine gK ?_ | refine gL ?_ | refine lwp_region hC ⟨[], [], []⟩ (told0 _ _) rfl ⟨⟩ ?_
        (refine lwp_cond hC rfl (by first | exact ⟨⟩ | exact sd) (fun hb => ?_) (fun hb => ?_) <;> (try simp only [decide_eq_true_eq, decide_eq_false_iff_not, Bool.not_eq_true', Bool.not_eq_false', ne_eq, Decidable.not_not] at hb))
        · have e : runE t = holesS t.smp.length (-1) t.holes := by rw [HR.out]; unfold holeR; rw [if_pos hb]
          repeat first | refine lwp_seq fun K hK => ?_ | ((with_reducible refine gA ?_); apply_assumption -exfalso -symm) | refine gB ?_ | refine gC ?_ | refine gD ?_ | refine gE ?_ | refine gF rfl ?_ | refine gG rfl ?_ | refine gH ?_ | refine gI ?_ | refine gJ ?_ | refine gK ?_ | refine gL ?_ | refine lwp_region hC ⟨[], [], []⟩ (told0 _ _) rfl ⟨⟩ ?_
          (refine end_intro (by first | exact .inr rfl | exact .inl rfl) [] rfl ?_)
          exact ⟨e, trivial⟩
        · have hok := holesS_ok _ _ _ hb
          have hr := HR.out
          unfold holeR at hr
          rw [if_neg (fun h => h hb)] at hr
          have HF := Lib.hid (formR_eq t hok)
          have HR := Lib.hid hr
          clear hr hb hok
          repeat first | refine lwp_seq fun K hK => ?_ | ((with_reducible refine gA ?_); apply_assumption -exfalso -symm) | refine gB ?_ | refine gC ?_ | refine gD ?_ | refine gE ?_ | refine gF rfl ?_ | refine gG rfl ?_ | refine gH ?_ | refine gI ?_ | refine gJ ?_ | refine gK ?_ | refine gL ?_ | refine lwp_region hC ⟨[], [], []⟩ (told0 _ _) rfl ⟨⟩ ?_ | refine lwp_region hC ⟨[], [], []⟩ (told0 _ _) rfl (by exact sd) ?_
          refine lwp_loop (fun k : Nat => ⟨[(5, i64 k), (1, .ptr 2 0 0 0)], ctQ t, 3⟩) (fun k => k ≤ t.smp.length ∧ NoBadR t k) (fun k => t.smp.length - k) 0 ⟨?_, sub_intro hm [(0, some 0), (1, some 1), (2, some 2)] rfl ?_⟩ ?_
          · exact ⟨Nat.zero_le _, fun i hi => by omega⟩
          · exact sd
          rintro m ⟨hm', hg⟩
          unfold ctQ
          have hmm : ((m : Int)).toNat = m := Int.toNat_natCast m
          have HG := Lib.hid hg
          clear hg
          repeat first | refine lwp_seq fun K hK => ?_ | ((with_reducible refine gA ?_); apply_assumption -exfalso -symm) | refine gB ?_ | refine gC ?_ | refine gD ?_ | refine gE ?_ | refine gF rfl ?_ | refine gG rfl ?_ | refine gH ?_ | refine gI ?_ | refine gJ ?_ | refine gK ?_ | refine gL ?_ | refine lwp_region hC ⟨[], [], []⟩ (told0 _ _) rfl ⟨⟩ ?_
          (refine lwp_cond hC rfl (by first | exact ⟨⟩ | exact sd) (fun hb => ?_) (fun hb => ?_) <;> (try simp only [decide_eq_true_eq, decide_eq_false_iff_not, Bool.not_eq_true', Bool.not_eq_false', ne_eq, Decidable.not_not] at hb))
          · have hm2 : m < t.smp.length := by omega
            repeat first | refine lwp_seq fun K hK => ?_ | ((with_reducible refine gA ?_); apply_assumption -exfalso -symm) | refine gB ?_ | refine gC ?_ | refine gD ?_ | refine gE ?_ | refine gF rfl ?_ | refine gG rfl ?_ | refine gH ?_ | refine gI ?_ | refine gJ ?_ | refine gK ?_ | refine gL ?_ | refine lwp_region hC ⟨[], [], []⟩ (told0 _ _) rfl ⟨⟩ ?_
            cases hz : nzB (t.smp.getD m 0) with
            | false =>
              (refine lwp_region hC ⟨[(6, { b := some false }), (7, { g := some false }), (8, { g := some false }), (9, { g := some false }), (10, { g := some false })], [], []⟩ (told0 _ _) rfl ?_ ?_; rotate_left 1)
              · repeat first | refine lwp_seq fun K hK => ?_ | ((with_reducible refine gA ?_); apply_assumption -exfalso -symm) | refine gB ?_ | refine gC ?_ | refine gD ?_ | refine gE ?_ | refine gF rfl ?_ | refine gG rfl ?_ | refine gH ?_ | refine gI ?_ | refine gJ ?_ | refine gK ?_ | refine gL ?_ | refine lwp_region hC ⟨[], [], []⟩ (told0 _ _) rfl ⟨⟩ ?_ | refine lwp_region hC ⟨[], [], []⟩ (told0 _ _) rfl (by exact sd) ?_
                (refine lwp_cond hC rfl (by first | exact ⟨⟩ | exact sd) (fun hb => ?_) (fun hb => ?_) <;> (try simp only [decide_eq_true_eq, decide_eq_false_iff_not, Bool.not_eq_true', Bool.not_eq_false', ne_eq, Decidable.not_not] at hb))
                · cases hb
                · repeat first | refine lwp_seq fun K hK => ?_ | ((with_reducible refine gA ?_); apply_assumption -exfalso -symm) | refine gB ?_ | refine gC ?_ | refine gD ?_ | refine gE ?_ | refine gF rfl ?_ | refine gG rfl ?_ | refine gH ?_ | refine gI ?_ | refine gJ ?_ | refine gK ?_ | refine gL ?_ | refine lwp_region hC ⟨[], [], []⟩ (told0 _ _) rfl ⟨⟩ ?_ | refine lwp_region hC ⟨[], [], []⟩ (told0 _ _) rfl (by exact sd) ?_
                  refine gA ⟨m + 1, ?_, ?_, sub_intro hm [(0, some 0), (1, some 1), (2, some 2)] rfl ?_⟩
                  · refine ⟨by omega, fun i hi => ?_⟩
                    by_cases e : i = m
                    · subst e; exact fun h => by rw [hz] at h; exact absurd h.1 (by decide)
                    · exact HG.out i (by omega)
                  · omega
                  · exact sd
              · simp only [AllL, All, cd_p, cp_p, cv_p, InK, hmm]
                (repeat' (first | refine And.intro ?_ ?_ | intro _)) <;> first | trivial | rfl | omega | assumption | exact hz | simp
            | true =>
              (refine lwp_region hC ⟨[(6, { b := some true })], [], [(9, RIsKnown_i t m [(0, some 0), (1, some 1)])]⟩ (told1 _ (by rw [hP]; exact (calls_cons (RIsKnown_s _ _ _ hl) calls_nil))) rfl ?_ ?_; rotate_left 1)
              · repeat first | refine lwp_seq fun K hK => ?_ | ((with_reducible refine gA ?_); apply_assumption -exfalso -symm) | refine gB ?_ | refine gC ?_ | refine gD ?_ | refine gE ?_ | refine gF rfl ?_ | refine gG rfl ?_ | refine gH ?_ | refine gI ?_ | refine gJ ?_ | refine gK ?_ | refine gL ?_ | refine lwp_region hC ⟨[], [], []⟩ (told0 _ _) rfl ⟨⟩ ?_
                (refine lwp_cond hC rfl (by first | exact ⟨⟩ | exact sd) (fun hb => ?_) (fun hb => ?_) <;> (try simp only [decide_eq_true_eq, decide_eq_false_iff_not, Bool.not_eq_true', Bool.not_eq_false', ne_eq, Decidable.not_not] at hb))
                · have hkn : knownB t.holes m = false := by simpa using hb
                  have e : runE t = 1 := by
                    obtain ⟨f1, f2⟩ := HF.out
                    rw [HR.out, f2]
                    exact ⟨m, hm2, hz, hkn⟩
                  repeat first | refine lwp_seq fun K hK => ?_ | ((with_reducible refine gA ?_); apply_assumption -exfalso -symm) | refine gB ?_ | refine gC ?_ | refine gD ?_ | refine gE ?_ | refine gF rfl ?_ | refine gG rfl ?_ | refine gH ?_ | refine gI ?_ | refine gJ ?_ | refine gK ?_ | refine gL ?_ | refine lwp_region hC ⟨[], [], []⟩ (told0 _ _) rfl ⟨⟩ ?_
                  (refine end_intro (by first | exact .inr rfl | exact .inl rfl) [] rfl ?_)
                  exact ⟨e, trivial⟩
                · have hkn : knownB t.holes m = true := by simpa using hb
                  repeat first | refine lwp_seq fun K hK => ?_ | ((with_reducible refine gA ?_); apply_assumption -exfalso -symm) | refine gB ?_ | refine gC ?_ | refine gD ?_ | refine gE ?_ | refine gF rfl ?_ | refine gG rfl ?_ | refine gH ?_ | refine gI ?_ | refine gJ ?_ | refine gK ?_ | refine gL ?_ | refine lwp_region hC ⟨[], [], []⟩ (told0 _ _) rfl ⟨⟩ ?_ | refine lwp_region hC ⟨[], [], []⟩ (told0 _ _) rfl (by exact sd) ?_
                  refine gA ⟨m + 1, ?_, ?_, sub_intro hm [(0, some 0), (1, some 1), (2, some 2)] rfl ?_⟩
                  · refine ⟨by omega, fun i hi => ?_⟩
                    by_cases e : i = m
                    · subst e; exact fun h => by rw [hkn] at h; exact absurd h.2 (by decide)
                    · exact HG.out i (by omega)
                  · omega
                  · exact sd
              · simp only [AllL, All, cd_p, cp_p, cv_p, InK, hmm]
                (repeat' (first | refine And.intro ?_ ?_ | intro _)) <;> first | trivial | rfl | omega | assumption | exact hz | simp
          · have hm3 : m = t.smp.length := by omega
            have e : runE t = 0 := by
              obtain ⟨f1, f2⟩ := HF.out
              rw [HR.out]
              rcases f1 with f1 | f1
              · obtain ⟨i, a, b, c⟩ := f2.1 f1
                exact absurd ⟨b, c⟩ (HG.out i (by omega))
              · exact f1
            repeat first | refine lwp_seq fun K hK => ?_ | ((with_reducible refine gA ?_); apply_assumption -exfalso -symm) | refine gB ?_ | refine gC ?_ | refine gD ?_ | refine gE ?_ | refine gF rfl ?_ | refine gG rfl ?_ | refine gH ?_ | refine gI ?_ | refine gJ ?_ | refine gK ?_ | refine gL ?_ | refine lwp_region hC ⟨[], [], []⟩ (told0 _ _) rfl ⟨⟩ ?_ | refine lwp_region hC ⟨[], [], []⟩ (told0 _ _) rfl (by exact sd) ?_
            (refine end_intro (by first | exact .inr rfl | exact .inl rfl) [] rfl ?_)
            exact ⟨e, trivial⟩
      · exact sd
  · simp only [AllL, All, cd_p, cp_p, cv_p, InK, decide_eq_true_eq]
    (repeat' (first | refine And.intro ?_ ?_ | intro _)) <;> first | trivial | rfl | omega | assumption | simp

end Go.Proofs.YtoopgdchiljmiaaGreatDoor
