/- Chapter 5: a run moved; limits. -/
import Derived.Test.YtoopgdchiljmiaaGreatDoorHm
set_option linter.unusedVariables false
set_option linter.unusedSimpArgs false
namespace Go.Proofs.YtoopgdchiljmiaaGreatDoor
open Go.RowKit Go.Sym

/-- A sum of integers that may wrap. -/
def custWAdd : Custom := ⟨fun o l => match o.op, l with
  | .binOp .add t _ _ _, [.lit (.int .i64 a), .lit (.int .i64 b)] => match Nat.beq t 3 with
    | true => some (.lit (.int .i64 (wrap64 (a + b))))
    | false => none
  | _, _ => none⟩
theorem custWAdd_ok : custWAdd.ok Tryz.prog := by
  intro o l r h ρ w e vs hd hv
  dsimp only [custWAdd] at h
  split at h
  · rename_i t x y yt a b ho
    split at h
    · rename_i ht
      cases Nat.eq_of_beq_eq_true ht
      cases h
      simp only [AV.denL, AV.den, listO, Option.map_some, Option.some.injEq] at hd
      subst hd
      rw [ho] at hv
      simp only [Op.operands, List.map_cons, List.map_nil, List.cons.injEq, and_true] at hv
      obtain ⟨e1, e2⟩ := hv
      refine ⟨_, rfl, ?_⟩
      have hb : binV Tryz.prog .add 3 (.int .i64 a) (.int .i64 b) = some (.int .i64 (wrap64 (a + b))) := by rw [show wrap64 (a + b) = IntKind.i64.wrap (a + b) by unfold wrap64; exact (IntKind.wrap_i64 (a + b)).symm]; rfl
      have := binV_run hb x y w
      simp only [execOp, ho, Sem.run_bind, e1, e2] at this ⊢
      rw [this]
      rfl
    · cases h
  · cases h

def rn0 : Rn := ⟨⟨#[]⟩, 0, [], []⟩
def mvE (t : Rn) (d : Int) : Int := firstS [runE t, withinS d (-100000000) 100000000, withinS (wrap64 (t.first + d)) 0 (100000000 - t.smp.length)]
def mvT (t : Rn) (d : Int) : Rn := ⟨t.name, t.first + d, t.smp, t.holes⟩
def mvR (t : Rn) (d : Int) : Rn × Int := if mvE t d ≠ 0 then (rn0, mvE t d) else (mvT t d, 0)
def mvQ (t : Rn) (d : Int) : Rn × Int := if t.first + d < 0 ∨ t.first + d + t.smp.length > 100000000 then (rn0, 3) else (mvT t d, 0)
def oneE (t : Rn) (d : Int) : Int := firstS [runE t, withinS d (-100000000) 100000000]
theorem wrap_small {x : Int} (h : -1000000000 ≤ x ∧ x ≤ 1000000000) : wrap64 x = x := by unfold wrap64; omega
theorem mv_zero {t : Rn} {d : Int} (h : oneE t d = 0) (hl : t.holes.length ≤ 100000) : VR t ∧ runE t = 0 ∧ (-100000000 ≤ d ∧ d ≤ 100000000) ∧ wrap64 (t.first + d) = t.first + d ∧ mvR t d = mvQ t d := by
  unfold oneE at h
  rw [firstS_cons, firstS_cons, withinS_zero] at h
  obtain ⟨h1, h2, _⟩ := h
  obtain ⟨hv, h3⟩ := vr_of h1 hl
  have hf := hv.f
  have hw := wrap_small (x := t.first + d) (by omega)
  refine ⟨hv, h1, h2, hw, ?_⟩
  have hE : mvE t d = withinS (t.first + d) 0 (100000000 - t.smp.length) := by
    unfold mvE
    rw [hw]
    have h2' : withinS d (-100000000) 100000000 = 0 := withinS_zero.2 h2
    simp only [firstS, h1, h2', if_true]
    split
    · rename_i hx; exact hx.symm
    · rfl
  unfold mvR mvQ
  rw [hE]
  unfold withinS
  by_cases hc : t.first + d < 0 ∨ t.first + d > 100000000 - (t.smp.length : Int)
  · rw [if_pos hc, if_pos (by decide), if_pos (by omega)]
  · rw [if_neg hc, if_neg (by decide), if_neg (by omega)]
theorem mv_bad {t : Rn} {d : Int} (h : oneE t d ≠ 0) : mvR t d = (rn0, oneE t d) := by
  have e : mvE t d = oneE t d := by
    unfold mvE oneE at *
    simp only [firstS] at h ⊢
    by_cases h1 : runE t = 0
    · by_cases h2 : withinS d (-100000000) 100000000 = 0
      · simp [h1, h2] at h
      · simp [h1, h2]
    · simp [h1]
  unfold mvR
  rw [e, if_pos h]
theorem copy_all (l : List Nat) (z : Cont) (k : Nat) (hk : k = l.length) (hz : z.cells.length = l.length) : (copyCont k 1 z (flC l)).cells = (flC l).cells := by
  have h : (flC l).cells.length = l.length := by rw [flC_cells]; simp [floats]
  rw [copyCont_cells, Nat.mul_one, List.take_of_length_le (by omega), List.drop_of_length_le (by omega), List.append_nil]


def PMoved_i (t : Rn) (d : Int) (σ : Ren) : Inst := { f := 69, hin := rnIn t, args := [rnA 0 1 t, i64 d], hout := rnOw 2 (mvR t d).1, ret := .tup [rnA 2 3 (mvR t d).1, i64 (mvR t d).2], σ := σ }
set_option maxRecDepth 20000 in
set_option maxHeartbeats 8000000 in
theorem PMoved_s (t : Rn) (d : Int) (σ : Ren) (h1 : t.smp.length ≤ 100000) (h2 : t.holes.length ≤ 100000) : (PMoved_i t d σ).ok Tryz.prog := by
  unfold PMoved_i Inst.ok; dsimp only; refine spec_of_body (tys := tys) 2 Tryz.func69 (by kernel_rfl) rfl tys_ok rfl (Nat.le_of_ble_eq_true rfl) (fun _ _ h => (by cases h)) fun F hP hm hC hrd => ?_; conv => whnf
  (repeat (first | (refine lwp_seq fun K hK => ?_) | (refine thenS_normal ?_; apply_assumption -exfalso -symm) | (refine thenS_exit ?_) | (refine thenS_ret ?_) | (refine inBlockS_normal ?_) | (refine inBlockS_ret ?_) | (refine inBlockS_hit rfl ?_) | (refine inBlockS_miss rfl ?_) | (refine lwp_block ?_) | (refine lwp_skip ?_) | (refine lwp_exit ?_) | (refine lwp_ret ?_) | (refine lwp_label ?_) | (refine lwp_region hC ⟨[], [], []⟩ (told0 _ _) rfl True.intro ?_) | (refine lwp_region hC ⟨[], [], []⟩ (told0 _ _) rfl (by ((try simp only [AllL, All, cd_p, cp_p, cv_p, InK, and_true, true_and]); all_goals ((repeat' (first | refine And.intro ?_ ?_ | intro _)) <;> first | omega | exact True.intro | assumption | (simp; done) | rfl | (simp_all; done) | (simp_all; omega)))) ?_)))
  (refine lwp_drawn hC (by rw [hP]; exact mixed) ⟨[], [(7, custWAdd)], [(1, SRun_i t [(0, some 0), (1, some 1)]), (3, AWithin_i d (-100000000) 100000000), (12, AWithin_i (wrap64 (t.first + d)) 0 (100000000 - t.smp.length)), (14, AFirst_i [runE t, withinS d (-100000000) 100000000, withinS (wrap64 (t.first + d)) 0 (100000000 - t.smp.length)] [(0, some 4)])]⟩ ⟨(fun p hp => by rcases List.mem_cons.1 hp with rfl | hp; rw [hP]; exact custWAdd_ok; cases hp), (by rw [hP]; exact (calls_cons (SRun_s _ _ h1 h2) (calls_cons (AWithin_s _ _ _) (calls_cons (AWithin_s _ _ _) (calls_cons (AFirst_s _ _ (by simp)) calls_nil)))))⟩ [0, 1, 0, 7, 0, 16, 0, 112, 0, 256, 768, 1792, 4095, 8191, 16383, 32767] 12 rfl ?_ ?_; rotate_left 1)
  · (repeat (first | (refine lwp_seq fun K hK => ?_) | (refine thenS_normal ?_; apply_assumption -exfalso -symm) | (refine thenS_exit ?_) | (refine thenS_ret ?_) | (refine inBlockS_normal ?_) | (refine inBlockS_ret ?_) | (refine inBlockS_hit rfl ?_) | (refine inBlockS_miss rfl ?_) | (refine lwp_block ?_) | (refine lwp_skip ?_) | (refine lwp_exit ?_) | (refine lwp_ret ?_) | (refine lwp_label ?_) | (refine lwp_region hC ⟨[], [], []⟩ (told0 _ _) rfl True.intro ?_) | (refine lwp_region hC ⟨[], [], []⟩ (told0 _ _) rfl (by ((try simp only [AllL, All, cd_p, cp_p, cv_p, InK, and_true, true_and]); all_goals ((repeat' (first | refine And.intro ?_ ?_ | intro _)) <;> first | omega | exact True.intro | assumption | (simp; done) | rfl | (simp_all; done) | (simp_all; omega)))) ?_)))
    (refine lwp_cond hC rfl (by first | exact True.intro | ((try simp only [AllL, All, cd_p, cp_p, cv_p, InK, and_true, true_and]); all_goals ((repeat' (first | refine And.intro ?_ ?_ | intro _)) <;> first | omega | exact True.intro | assumption | (simp; done) | rfl | (simp_all; done) | (simp_all; omega)))) (fun hb => ?_) (fun hb => ?_) <;> (try simp only [decide_eq_true_eq, decide_eq_false_iff_not, Bool.not_eq_true', Bool.not_eq_false', ne_eq, Decidable.not_not] at hb))
    · have hE : mvR t d = (rn0, mvE t d) := if_pos hb
      (repeat (first | (refine lwp_seq fun K hK => ?_) | (refine thenS_normal ?_; apply_assumption -exfalso -symm) | (refine thenS_exit ?_) | (refine thenS_ret ?_) | (refine inBlockS_normal ?_) | (refine inBlockS_ret ?_) | (refine inBlockS_hit rfl ?_) | (refine inBlockS_miss rfl ?_) | (refine lwp_block ?_) | (refine lwp_skip ?_) | (refine lwp_exit ?_) | (refine lwp_ret ?_) | (refine lwp_label ?_) | (refine lwp_region hC ⟨[], [], []⟩ (told0 _ _) rfl True.intro ?_) | (refine lwp_region hC ⟨[], [], []⟩ (told0 _ _) rfl (by ((try simp only [AllL, All, cd_p, cp_p, cv_p, InK, and_true, true_and]); all_goals ((repeat' (first | refine And.intro ?_ ?_ | intro _)) <;> first | omega | exact True.intro | assumption | (simp; done) | rfl | (simp_all; done) | (simp_all; omega)))) ?_)))
      rw [hE]
      (refine end_intro (by first | exact .inr rfl | exact .inl rfl) [(2, none), (3, none)] rfl ?_)
      unfold rn0
      ((try simp only [AllL, All, cd_p, cp_p, cv_p, InK, and_true, true_and]); all_goals ((repeat' (first | refine And.intro ?_ ?_ | intro _)) <;> first | omega | exact True.intro | assumption | (simp; done) | rfl | (simp_all; done) | (simp_all; omega)))
    · have hz : mvE t d = 0 := hb
      have hE : mvR t d = (mvT t d, 0) := by unfold mvR; rw [if_neg (by rw [hz]; decide)]
      clear hb
      have hr : oneE t d = 0 := by
        unfold mvE at hz
        unfold oneE
        rw [firstS_cons, firstS_cons] at hz ⊢
        exact ⟨hz.1, hz.2.1, rfl⟩
      obtain ⟨hv, h3, h4, h5, _⟩ := mv_zero hr h2
      have hf := hv.f
      have hn := hv.n
      have hcp := copy_all t.smp (zeroCont (.float .f32 0) t.smp.length 1)
      repeat first | refine lwp_seq fun K hK => ?_ | ((with_reducible refine thenS_normal ?_); apply_assumption -exfalso -symm) | refine thenS_exit ?_ | refine thenS_ret ?_ | refine inBlockS_normal ?_ | refine inBlockS_ret ?_ | refine inBlockS_hit rfl ?_ | refine inBlockS_miss rfl ?_ | refine lwp_block ?_ | refine lwp_skip ?_ | refine lwp_exit ?_ | refine lwp_ret ?_ | refine lwp_label ?_ | refine lwp_region hC ⟨[], [], []⟩ (told0 _ _) rfl True.intro ?_
      (refine lwp_region hC ⟨[], [], []⟩ (told0 _ _) rfl ?_ ?_; rotate_left 1)
      · repeat first | refine lwp_seq fun K hK => ?_ | ((with_reducible refine thenS_normal ?_); apply_assumption -exfalso -symm) | refine thenS_exit ?_ | refine thenS_ret ?_ | refine inBlockS_normal ?_ | refine inBlockS_ret ?_ | refine inBlockS_hit rfl ?_ | refine inBlockS_miss rfl ?_ | refine lwp_block ?_ | refine lwp_skip ?_ | refine lwp_exit ?_ | refine lwp_ret ?_ | refine lwp_label ?_ | refine lwp_region hC ⟨[], [], []⟩ (told0 _ _) rfl True.intro ?_
        (refine lwp_region hC ⟨[], [], []⟩ (told0 _ _) rfl ?_ ?_; rotate_left 1)
        · repeat first | refine lwp_seq fun K hK => ?_ | ((with_reducible refine thenS_normal ?_); apply_assumption -exfalso -symm) | refine thenS_exit ?_ | refine thenS_ret ?_ | refine inBlockS_normal ?_ | refine inBlockS_ret ?_ | refine inBlockS_hit rfl ?_ | refine inBlockS_miss rfl ?_ | refine lwp_block ?_ | refine lwp_skip ?_ | refine lwp_exit ?_ | refine lwp_ret ?_ | refine lwp_label ?_ | refine lwp_region hC ⟨[], [], []⟩ (told0 _ _) rfl True.intro ?_
          (refine lwp_region hC ⟨[], [], []⟩ (told0 _ _) rfl ?_ ?_; rotate_left 1)
          · repeat first | refine lwp_seq fun K hK => ?_ | ((with_reducible refine thenS_normal ?_); apply_assumption -exfalso -symm) | refine thenS_exit ?_ | refine thenS_ret ?_ | refine inBlockS_normal ?_ | refine inBlockS_ret ?_ | refine inBlockS_hit rfl ?_ | refine inBlockS_miss rfl ?_ | refine lwp_block ?_ | refine lwp_skip ?_ | refine lwp_exit ?_ | refine lwp_ret ?_ | refine lwp_label ?_ | refine lwp_region hC ⟨[], [], []⟩ (told0 _ _) rfl True.intro ?_
            (refine lwp_region hC ⟨[], [], [(2, Clone_i t.holes [(0, some 1)])]⟩ (told1 _ (by rw [hP]; exact (calls_cons (Clone_s _ _ (by omega)) calls_nil))) rfl ?_ ?_; rotate_left 1)
            · repeat first | refine lwp_seq fun K hK => ?_ | ((with_reducible refine thenS_normal ?_); apply_assumption -exfalso -symm) | refine thenS_exit ?_ | refine thenS_ret ?_ | refine inBlockS_normal ?_ | refine inBlockS_ret ?_ | refine inBlockS_hit rfl ?_ | refine inBlockS_miss rfl ?_ | refine lwp_block ?_ | refine lwp_skip ?_ | refine lwp_exit ?_ | refine lwp_ret ?_ | refine lwp_label ?_ | refine lwp_region hC ⟨[], [], []⟩ (told0 _ _) rfl True.intro ?_
              rw [hE]
              (refine end_intro (by first | exact .inr rfl | exact .inl rfl) [(2, some 8), (3, some 11)] rfl ?_)
              have ez : (zeroCont (.float .f32 0) (t.smp.length : Int).toNat 1).cells.length = t.smp.length := by simp [zeroCont, Cont.cells]
              have em : t.smp.length.min (t.smp.length : Int).toNat = t.smp.length := by rw [Int.toNat_natCast]; exact Nat.min_self _
              simp only [All, cd_p, cp_p, cv_p]
              exact ⟨rfl, rfl, (copy_all t.smp _ _ em ez).symm, (Int.toNat_natCast _).symm, trivial, rfl, (Int.toNat_natCast _).symm, rfl, rfl, trivial⟩
            · ((try simp only [AllL, All, cd_p, cp_p, cv_p, InK, and_true, true_and]); all_goals ((repeat' (first | refine And.intro ?_ ?_ | intro _)) <;> first | omega | exact True.intro | assumption | (simp; done) | rfl | (simp_all; done) | (simp_all; omega)))
          · simp only [AllL, All, cd_p, cp_p, cv_p, InK, and_true, true_and]
            exact flC_one t.smp
        · ((try simp only [AllL, All, cd_p, cp_p, cv_p, InK, and_true, true_and]); all_goals ((repeat' (first | refine And.intro ?_ ?_ | intro _)) <;> first | omega | exact True.intro | assumption | (simp; done) | rfl | (simp_all; done) | (simp_all; omega)))
      · ((try simp only [AllL, All, cd_p, cp_p, cv_p, InK, and_true, true_and]); all_goals ((repeat' (first | refine And.intro ?_ ?_ | intro _)) <;> first | omega | exact True.intro | assumption | (simp; done) | rfl | (simp_all; done) | (simp_all; omega)))
  · ((try simp only [AllL, All, cd_p, cp_p, cv_p, InK, and_true, true_and]); all_goals ((repeat' (first | refine And.intro ?_ ?_ | intro _)) <;> first | omega | exact True.intro | assumption | (simp; done) | rfl | (simp_all; done) | (simp_all; omega)))

end Go.Proofs.YtoopgdchiljmiaaGreatDoor
