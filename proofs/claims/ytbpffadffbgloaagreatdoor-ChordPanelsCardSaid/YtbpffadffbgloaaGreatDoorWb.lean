/- Contracts: the reference's Power and Transfer; complex numbers out of integers. -/
import Derived.Test.YtbpffadffbgloaaGreatDoorWa
import Derived.Test.YtbpffadffbgloaaGreatDoorRa
set_option linter.unusedVariables false
set_option linter.unusedSimpArgs false
namespace Go.Proofs.YtbpffadffbgloaaGreatDoor
open Go.RowKit Go.Sym

theorem powR_neg (n : Int) : powR ((-n) % 4) = powR (n % 4) := by
  obtain hr | hr | hr | hr : n % 4 = 0 ∨ n % 4 = 1 ∨ n % 4 = 2 ∨ n % 4 = 3 := by omega
  · have : (-n) % 4 = 0 := by omega
    rw [hr, this]
  · have : (-n) % 4 = 3 := by omega
    rw [hr, this]; rfl
  · have : (-n) % 4 = 2 := by omega
    rw [hr, this]
  · have : (-n) % 4 = 1 := by omega
    rw [hr, this]; rfl
theorem powI_neg (n : Int) : powI ((-n) % 4) = -powI (n % 4) := by
  obtain hr | hr | hr | hr : n % 4 = 0 ∨ n % 4 = 1 ∨ n % 4 = 2 ∨ n % 4 = 3 := by omega
  · have : (-n) % 4 = 0 := by omega
    rw [hr, this]; rfl
  · have : (-n) % 4 = 3 := by omega
    rw [hr, this]; rfl
  · have : (-n) % 4 = 2 := by omega
    rw [hr, this]; rfl
  · have : (-n) % 4 = 1 := by omega
    rw [hr, this]; rfl
theorem three4 (m : Int) : (3 * m) % 4 = (-m) % 4 := by omega
def RPower_i (n : Int) : Inst := { f := 73, hin := [], args := [i64 n], hout := [], ret := .agg [i64 (powR (n % 4)), i64 (-powI (n % 4))], σ := [] }
set_option maxRecDepth 20000 in
theorem RPower_s (n : Int) (hn : 0 ≤ n) : (RPower_i n).ok Tryz.prog := by
  have h2 : n.tmod 4 = n % 4 := Int.tmod_eq_emod_of_nonneg hn
  unfold RPower_i Inst.ok; dsimp only; refine spec_of_body (tys := tys) 0 Tryz.func73 (by kernel_rfl) rfl tys_ok rfl (Nat.le_of_ble_eq_true rfl) (fun _ _ h => (by cases h)) fun F hP hm hC => ?_; conv => whnf
  repeat first | refine lwp_seq fun K hK => ?_ | (refine thenS_normal ?_; apply_assumption -exfalso -symm) | refine thenS_exit ?_ | refine thenS_ret ?_ | refine inBlockS_normal ?_ | refine inBlockS_ret ?_ | refine inBlockS_hit rfl ?_ | refine inBlockS_miss rfl ?_ | refine lwp_block ?_ | refine lwp_skip ?_ | refine lwp_exit ?_ | refine lwp_ret ?_ | refine lwp_label ?_ | refine lwp_region hC ⟨[], [], []⟩ (told0 _ _) rfl True.intro ?_ | refine lwp_region hC ⟨[], [], []⟩ (told0 _ _) rfl (by ((try simp only [AllL, All, cd_p, cp_p, cv_p, InK, and_true, true_and]); all_goals ((repeat' (first | refine And.intro ?_ ?_ | intro _)) <;> first | omega | exact True.intro | assumption | (simp; done) | rfl | (simp_all; done) | (simp_all; omega)))) ?_
  obtain hr | hr | hr | hr : n % 4 = 0 ∨ n % 4 = 1 ∨ n % 4 = 2 ∨ n % 4 = 3 := by omega
  · (refine lwp_region hC ⟨[(7, { i1 := some 0 })], [], []⟩ (told0 _ _) rfl ?_ ?_; rotate_left 1)
    · repeat first | refine lwp_seq fun K hK => ?_ | (refine thenS_normal ?_; apply_assumption -exfalso -symm) | refine thenS_exit ?_ | refine thenS_ret ?_ | refine inBlockS_normal ?_ | refine inBlockS_ret ?_ | refine inBlockS_hit rfl ?_ | refine inBlockS_miss rfl ?_ | refine lwp_block ?_ | refine lwp_skip ?_ | refine lwp_exit ?_ | refine lwp_ret ?_ | refine lwp_label ?_ | refine lwp_region hC ⟨[], [], []⟩ (told0 _ _) rfl True.intro ?_ | refine lwp_region hC ⟨[], [], []⟩ (told0 _ _) rfl (by ((try simp only [AllL, All, cd_p, cp_p, cv_p, InK, and_true, true_and]); all_goals ((repeat' (first | refine And.intro ?_ ?_ | intro _)) <;> first | omega | exact True.intro | assumption | (simp; done) | rfl | (simp_all; done) | (simp_all; omega)))) ?_
      rw [hr]
      (refine end_intro (by first | exact .inr rfl | exact .inl rfl) [] rfl ?_)
      ((try simp only [AllL, All, cd_p, cp_p, cv_p, InK, and_true, true_and]); all_goals ((repeat' (first | refine And.intro ?_ ?_ | intro _)) <;> first | omega | exact True.intro | assumption | (simp; done) | rfl | (simp_all; done) | (simp_all; omega)))
    · rw [h2]; ((try simp only [AllL, All, cd_p, cp_p, cv_p, InK, and_true, true_and]); all_goals ((repeat' (first | refine And.intro ?_ ?_ | intro _)) <;> first | omega | exact True.intro | assumption | (simp; done) | rfl | (simp_all; done) | (simp_all; omega)))
  · (refine lwp_region hC ⟨[(7, { i1 := some 1 })], [], []⟩ (told0 _ _) rfl ?_ ?_; rotate_left 1)
    · repeat first | refine lwp_seq fun K hK => ?_ | (refine thenS_normal ?_; apply_assumption -exfalso -symm) | refine thenS_exit ?_ | refine thenS_ret ?_ | refine inBlockS_normal ?_ | refine inBlockS_ret ?_ | refine inBlockS_hit rfl ?_ | refine inBlockS_miss rfl ?_ | refine lwp_block ?_ | refine lwp_skip ?_ | refine lwp_exit ?_ | refine lwp_ret ?_ | refine lwp_label ?_ | refine lwp_region hC ⟨[], [], []⟩ (told0 _ _) rfl True.intro ?_ | refine lwp_region hC ⟨[], [], []⟩ (told0 _ _) rfl (by ((try simp only [AllL, All, cd_p, cp_p, cv_p, InK, and_true, true_and]); all_goals ((repeat' (first | refine And.intro ?_ ?_ | intro _)) <;> first | omega | exact True.intro | assumption | (simp; done) | rfl | (simp_all; done) | (simp_all; omega)))) ?_
      rw [hr]
      (refine end_intro (by first | exact .inr rfl | exact .inl rfl) [] rfl ?_)
      ((try simp only [AllL, All, cd_p, cp_p, cv_p, InK, and_true, true_and]); all_goals ((repeat' (first | refine And.intro ?_ ?_ | intro _)) <;> first | omega | exact True.intro | assumption | (simp; done) | rfl | (simp_all; done) | (simp_all; omega)))
    · rw [h2]; ((try simp only [AllL, All, cd_p, cp_p, cv_p, InK, and_true, true_and]); all_goals ((repeat' (first | refine And.intro ?_ ?_ | intro _)) <;> first | omega | exact True.intro | assumption | (simp; done) | rfl | (simp_all; done) | (simp_all; omega)))
  · (refine lwp_region hC ⟨[(7, { i1 := some 2 })], [], []⟩ (told0 _ _) rfl ?_ ?_; rotate_left 1)
    · repeat first | refine lwp_seq fun K hK => ?_ | (refine thenS_normal ?_; apply_assumption -exfalso -symm) | refine thenS_exit ?_ | refine thenS_ret ?_ | refine inBlockS_normal ?_ | refine inBlockS_ret ?_ | refine inBlockS_hit rfl ?_ | refine inBlockS_miss rfl ?_ | refine lwp_block ?_ | refine lwp_skip ?_ | refine lwp_exit ?_ | refine lwp_ret ?_ | refine lwp_label ?_ | refine lwp_region hC ⟨[], [], []⟩ (told0 _ _) rfl True.intro ?_ | refine lwp_region hC ⟨[], [], []⟩ (told0 _ _) rfl (by ((try simp only [AllL, All, cd_p, cp_p, cv_p, InK, and_true, true_and]); all_goals ((repeat' (first | refine And.intro ?_ ?_ | intro _)) <;> first | omega | exact True.intro | assumption | (simp; done) | rfl | (simp_all; done) | (simp_all; omega)))) ?_
      rw [hr]
      (refine end_intro (by first | exact .inr rfl | exact .inl rfl) [] rfl ?_)
      ((try simp only [AllL, All, cd_p, cp_p, cv_p, InK, and_true, true_and]); all_goals ((repeat' (first | refine And.intro ?_ ?_ | intro _)) <;> first | omega | exact True.intro | assumption | (simp; done) | rfl | (simp_all; done) | (simp_all; omega)))
    · rw [h2]; ((try simp only [AllL, All, cd_p, cp_p, cv_p, InK, and_true, true_and]); all_goals ((repeat' (first | refine And.intro ?_ ?_ | intro _)) <;> first | omega | exact True.intro | assumption | (simp; done) | rfl | (simp_all; done) | (simp_all; omega)))
  · (refine lwp_region hC ⟨[(7, { i1 := some 3 })], [], []⟩ (told0 _ _) rfl ?_ ?_; rotate_left 1)
    · repeat first | refine lwp_seq fun K hK => ?_ | (refine thenS_normal ?_; apply_assumption -exfalso -symm) | refine thenS_exit ?_ | refine thenS_ret ?_ | refine inBlockS_normal ?_ | refine inBlockS_ret ?_ | refine inBlockS_hit rfl ?_ | refine inBlockS_miss rfl ?_ | refine lwp_block ?_ | refine lwp_skip ?_ | refine lwp_exit ?_ | refine lwp_ret ?_ | refine lwp_label ?_ | refine lwp_region hC ⟨[], [], []⟩ (told0 _ _) rfl True.intro ?_ | refine lwp_region hC ⟨[], [], []⟩ (told0 _ _) rfl (by ((try simp only [AllL, All, cd_p, cp_p, cv_p, InK, and_true, true_and]); all_goals ((repeat' (first | refine And.intro ?_ ?_ | intro _)) <;> first | omega | exact True.intro | assumption | (simp; done) | rfl | (simp_all; done) | (simp_all; omega)))) ?_
      rw [hr]
      (refine end_intro (by first | exact .inr rfl | exact .inl rfl) [] rfl ?_)
      ((try simp only [AllL, All, cd_p, cp_p, cv_p, InK, and_true, true_and]); all_goals ((repeat' (first | refine And.intro ?_ ?_ | intro _)) <;> first | omega | exact True.intro | assumption | (simp; done) | rfl | (simp_all; done) | (simp_all; omega)))
    · rw [h2]; ((try simp only [AllL, All, cd_p, cp_p, cv_p, InK, and_true, true_and]); all_goals ((repeat' (first | refine And.intro ?_ ?_ | intro _)) <;> first | omega | exact True.intro | assumption | (simp; done) | rfl | (simp_all; done) | (simp_all; omega)))

def gsA (k : Nat) (j : Nat) (b a : Int) : AV := i64 (if j < k then tR b a j else 0)
def gsB (k : Nat) (j : Nat) (b a : Int) : AV := i64 (if j < k then tI b a j else 0)
def gsQ (b a : Int) (k : Nat) : List AV := [gsA k 0 b a, gsB k 0 b a, gsA k 1 b a, gsB k 1 b a, gsA k 2 b a, gsB k 2 b a, gsA k 3 b a, gsB k 3 b a]
def gsL (x0 y0 x1 y1 x2 y2 x3 y3 : Int) : AV := .agg [i64 x0, i64 y0, i64 x1, i64 y1, i64 x2, i64 y2, i64 x3, i64 y3]
theorem pow_mulN {a : Int} (h1 : 1 ≤ a) (h2 : a ≤ 32) (r : Int) : -32 ≤ a * -powI r ∧ a * -powI r ≤ 32 := by
  unfold powI
  (split <;> (try split)) <;> omega

/-- The item of an array of complex integers at a place that is told. -/
def custIdx (k : Nat) : Custom := ⟨fun o l => match o.op, l with
  | .index t _ _, [.agg [a0, a1, a2, a3, a4, a5, a6, a7], .lit (.int _ n)] => match Nat.beq t 45, decide (n = (k : Int)), k with
    | true, true, 0 => some (.agg [a0, a1])
    | true, true, 1 => some (.agg [a2, a3])
    | true, true, 2 => some (.agg [a4, a5])
    | true, true, 3 => some (.agg [a6, a7])
    | _, _, _ => none
  | _, _ => none⟩
theorem denL_cons {ρ : Env} {a : AV} {l : List AV} {vs : List Value} (h : AV.denL ρ (a :: l) = some vs) : ∃ v us, a.den ρ = some v ∧ AV.denL ρ l = some us ∧ vs = v :: us := by
  simp only [AV.denL] at h
  exact listO_some h
theorem index_gauss (w : World) (v0 v1 v2 v3 v4 v5 v6 v7 : Value) (kd : IntKind) (k : Nat) (hk : k < 4) : (Instr.index 45 (.agg #[v0, v1, v2, v3, v4, v5, v6, v7]) (.int kd (k : Int))).run Tryz.prog w = .ok (.agg (#[v0, v1, v2, v3, v4, v5, v6, v7].extract (k * 2) (k * 2 + 2))) w := by
  have hu : Tryz.prog.underlying 45 = some (.array 4 44) := by kernel_rfl
  have hs : (Tryz.prog.underlying 44).map isAggD = some true := by kernel_rfl
  have hi : (Tryz.prog.info? 44).map (fun i => i.size) = some 2 := by kernel_rfl
  obtain ⟨d, hd, hd2⟩ := Option.map_eq_some_iff.1 hs
  obtain ⟨i, hi1, hi2⟩ := Option.map_eq_some_iff.1 hi
  refine indexV_run ?_ w
  have hb : decide ((0 : Int) ≤ (k : Int) ∧ (k : Int) < ((4 : Nat) : Int)) = true := decide_eq_true (by omega)
  simp only [indexV, hu, hb, hi1, partV, hd, hd2, hi2, Int.toNat_natCast]
theorem custIdx_ok (k : Nat) : (custIdx k).ok Tryz.prog := by
  intro o l r h ρ w e vs hd hv
  dsimp only [custIdx] at h
  split at h
  · rename_i t x y a0 a1 a2 a3 a4 a5 a6 a7 kd n ho
    obtain ⟨va, us, d1, d2, rfl⟩ := denL_cons hd
    obtain ⟨vi, us2, d3, d4, rfl⟩ := denL_cons d2
    simp only [AV.denL, Option.some.injEq] at d4
    subst d4
    simp only [AV.den, Option.some.injEq] at d3
    subst d3
    simp only [AV.den, Option.map_eq_some_iff] at d1
    obtain ⟨ws, d5, rfl⟩ := d1
    obtain ⟨v0, w0, e0, f0, rfl⟩ := denL_cons d5
    obtain ⟨v1, w1, e1, f1, rfl⟩ := denL_cons f0
    obtain ⟨v2, w2, e2, f2, rfl⟩ := denL_cons f1
    obtain ⟨v3, w3, e3, f3, rfl⟩ := denL_cons f2
    obtain ⟨v4, w4, e4, f4, rfl⟩ := denL_cons f3
    obtain ⟨v5, w5, e5, f5, rfl⟩ := denL_cons f4
    obtain ⟨v6, w6, e6, f6, rfl⟩ := denL_cons f5
    obtain ⟨v7, w7, e7, f7, rfl⟩ := denL_cons f6
    simp only [AV.denL, Option.some.injEq] at f7
    subst f7
    rw [ho] at hv
    simp only [Op.operands, List.map_cons, List.map_nil, List.cons.injEq, and_true] at hv
    obtain ⟨hx, hy⟩ := hv
    split at h
    all_goals first | (cases h; done) | skip
    all_goals
      rename_i ht hn
      cases Nat.eq_of_beq_eq_true ht
      have hn := of_decide_eq_true hn
      subst hn
      cases h
    · refine ⟨.agg #[v0, v1], by simp [AV.den, AV.denL, e0, e1, listO], ?_⟩
      simp only [execOp, ho, Sem.run_bind, hx, hy, index_gauss w v0 v1 v2 v3 v4 v5 v6 v7 kd 0 (by decide)]
      rfl
    · refine ⟨.agg #[v2, v3], by simp [AV.den, AV.denL, e2, e3, listO], ?_⟩
      simp only [execOp, ho, Sem.run_bind, hx, hy, index_gauss w v0 v1 v2 v3 v4 v5 v6 v7 kd 1 (by decide)]
      rfl
    · refine ⟨.agg #[v4, v5], by simp [AV.den, AV.denL, e4, e5, listO], ?_⟩
      simp only [execOp, ho, Sem.run_bind, hx, hy, index_gauss w v0 v1 v2 v3 v4 v5 v6 v7 kd 2 (by decide)]
      rfl
    · refine ⟨.agg #[v6, v7], by simp [AV.den, AV.denL, e6, e7, listO], ?_⟩
      simp only [execOp, ho, Sem.run_bind, hx, hy, index_gauss w v0 v1 v2 v3 v4 v5 v6 v7 kd 3 (by decide)]
      rfl
  · cases h

def nsA (k j : Nat) (x y : Int) : AV := cxA (if j < k then fl x else 0) (if j < k then fl y else 0)
def Numbers_i (x0 y0 x1 y1 x2 y2 x3 y3 : Int) : Inst := { f := 21, hin := [], args := [gsL x0 y0 x1 y1 x2 y2 x3 y3], hout := [], ret := .agg [cxA (fl x0) (fl y0), cxA (fl x1) (fl y1), cxA (fl x2) (fl y2), cxA (fl x3) (fl y3)], σ := [] }
set_option maxRecDepth 20000 in
set_option maxHeartbeats 4000000 in
theorem Numbers_s (x0 y0 x1 y1 x2 y2 x3 y3 : Int) : (Numbers_i x0 y0 x1 y1 x2 y2 x3 y3).ok Tryz.prog := by
  unfold Numbers_i Inst.ok; dsimp only; refine spec_of_body (tys := tys) 0 Tryz.func21 (by kernel_rfl) rfl tys_ok rfl (Nat.le_of_ble_eq_true rfl) (fun _ _ h => (by cases h)) fun F hP hm hC => ?_; conv => whnf
  repeat first | refine lwp_seq fun K hK => ?_ | (refine thenS_normal ?_; apply_assumption -exfalso -symm) | refine thenS_exit ?_ | refine thenS_ret ?_ | refine inBlockS_normal ?_ | refine inBlockS_ret ?_ | refine inBlockS_hit rfl ?_ | refine inBlockS_miss rfl ?_ | refine lwp_block ?_ | refine lwp_skip ?_ | refine lwp_exit ?_ | refine lwp_ret ?_ | refine lwp_label ?_ | refine lwp_region hC ⟨[], [], []⟩ (told0 _ _) rfl True.intro ?_ | refine lwp_region hC ⟨[], [], []⟩ (told0 _ _) rfl (by ((try simp only [AllL, All, cd_p, cp_p, cv_p, InK, and_true, true_and]); all_goals ((repeat' (first | refine And.intro ?_ ?_ | intro _)) <;> first | omega | exact True.intro | assumption | (simp; done) | rfl | (simp_all; done) | (simp_all; omega)))) ?_
  refine lwp_loop (fun k : Nat => ⟨[(7, i64 k), (6, gsL x0 y0 x1 y1 x2 y2 x3 y3), (3, .ptr 2 0 0 0), (2, .ptr 1 0 0 0)], [(2, .blk 35 [nsA k 0 x0 y0, nsA k 1 x1 y1, nsA k 2 x2 y2, nsA k 3 x3 y3]), (1, .blk 35 [cxA 0 0, cxA 0 0, cxA 0 0, cxA 0 0])], 3⟩) (fun k => k ≤ 4) (fun k => 4 - k) 0 ⟨?_, sub_intro hm [(1, some 1), (2, some 2)] rfl ?_⟩ ?_
  · omega
  · ((try simp only [AllL, All, cd_p, cp_p, cv_p, InK, and_true, true_and]); all_goals ((repeat' (first | refine And.intro ?_ ?_ | intro _)) <;> first | omega | exact True.intro | assumption | (simp; done) | rfl | (simp_all; done) | (simp_all; omega)))
  rintro k hk
  obtain rfl | rfl | rfl | rfl | rfl : k = 0 ∨ k = 1 ∨ k = 2 ∨ k = 3 ∨ k = 4 := by omega
  · repeat first | refine lwp_seq fun K hK => ?_ | (refine thenS_normal ?_; apply_assumption -exfalso -symm) | refine thenS_exit ?_ | refine thenS_ret ?_ | refine inBlockS_normal ?_ | refine inBlockS_ret ?_ | refine inBlockS_hit rfl ?_ | refine inBlockS_miss rfl ?_ | refine lwp_block ?_ | refine lwp_skip ?_ | refine lwp_exit ?_ | refine lwp_ret ?_ | refine lwp_label ?_ | refine lwp_region hC ⟨[], [], []⟩ (told0 _ _) rfl True.intro ?_ | refine lwp_region hC ⟨[], [], []⟩ (told0 _ _) rfl (by ((try simp only [AllL, All, cd_p, cp_p, cv_p, InK, and_true, true_and]); all_goals ((repeat' (first | refine And.intro ?_ ?_ | intro _)) <;> first | omega | exact True.intro | assumption | (simp; done) | rfl | (simp_all; done) | (simp_all; omega)))) ?_
    (refine lwp_cond hC rfl (by first | exact True.intro | ((try simp only [AllL, All, cd_p, cp_p, cv_p, InK, and_true, true_and]); all_goals ((repeat' (first | refine And.intro ?_ ?_ | intro _)) <;> first | omega | exact True.intro | assumption | (simp; done) | rfl | (simp_all; done) | (simp_all; omega)))) (fun hb => ?_) (fun hb => ?_) <;> (try simp only [decide_eq_true_eq, decide_eq_false_iff_not, Bool.not_eq_true', Bool.not_eq_false', ne_eq, Decidable.not_not] at hb))
    · clear hb
      repeat first | refine lwp_seq fun K hK => ?_ | (refine thenS_normal ?_; apply_assumption -exfalso -symm) | refine thenS_exit ?_ | refine thenS_ret ?_ | refine inBlockS_normal ?_ | refine inBlockS_ret ?_ | refine inBlockS_hit rfl ?_ | refine inBlockS_miss rfl ?_ | refine lwp_block ?_ | refine lwp_skip ?_ | refine lwp_exit ?_ | refine lwp_ret ?_ | refine lwp_label ?_ | refine lwp_region hC ⟨[], [], []⟩ (told0 _ _) rfl True.intro ?_ | refine lwp_region hC ⟨[], [], []⟩ (told0 _ _) rfl (by ((try simp only [AllL, All, cd_p, cp_p, cv_p, InK, and_true, true_and]); all_goals ((repeat' (first | refine And.intro ?_ ?_ | intro _)) <;> first | omega | exact True.intro | assumption | (simp; done) | rfl | (simp_all; done) | (simp_all; omega)))) ?_
      (refine lwp_region hC ⟨[], [(1, custIdx 0)], []⟩ ⟨(fun p hp => by rcases List.mem_cons.1 hp with rfl | hp; rw [hP]; exact custIdx_ok _; cases hp), (fun _ h => (by cases h))⟩ rfl ?_ ?_; rotate_left 1)
      · repeat first | refine lwp_seq fun K hK => ?_ | (refine thenS_normal ?_; apply_assumption -exfalso -symm) | refine thenS_exit ?_ | refine thenS_ret ?_ | refine inBlockS_normal ?_ | refine inBlockS_ret ?_ | refine inBlockS_hit rfl ?_ | refine inBlockS_miss rfl ?_ | refine lwp_block ?_ | refine lwp_skip ?_ | refine lwp_exit ?_ | refine lwp_ret ?_ | refine lwp_label ?_ | refine lwp_region hC ⟨[], [], []⟩ (told0 _ _) rfl True.intro ?_ | refine lwp_region hC ⟨[], [], []⟩ (told0 _ _) rfl (by ((try simp only [AllL, All, cd_p, cp_p, cv_p, InK, and_true, true_and]); all_goals ((repeat' (first | refine And.intro ?_ ?_ | intro _)) <;> first | omega | exact True.intro | assumption | (simp; done) | rfl | (simp_all; done) | (simp_all; omega)))) ?_
        refine thenS_normal ⟨1, ?_, ?_, sub_intro hm [(1, some 1), (2, some 2)] rfl ?_⟩
        · omega
        · omega
        · simp only [All, cd_p, cp_p, cv_p]
          (repeat' refine And.intro ?_ ?_) <;> first | trivial | rfl | omega
      · ((try simp only [AllL, All, cd_p, cp_p, cv_p, InK, and_true, true_and]); all_goals ((repeat' (first | refine And.intro ?_ ?_ | intro _)) <;> first | omega | exact True.intro | assumption | (simp; done) | rfl | (simp_all; done) | (simp_all; omega)))
    · omega
  · repeat first | refine lwp_seq fun K hK => ?_ | (refine thenS_normal ?_; apply_assumption -exfalso -symm) | refine thenS_exit ?_ | refine thenS_ret ?_ | refine inBlockS_normal ?_ | refine inBlockS_ret ?_ | refine inBlockS_hit rfl ?_ | refine inBlockS_miss rfl ?_ | refine lwp_block ?_ | refine lwp_skip ?_ | refine lwp_exit ?_ | refine lwp_ret ?_ | refine lwp_label ?_ | refine lwp_region hC ⟨[], [], []⟩ (told0 _ _) rfl True.intro ?_ | refine lwp_region hC ⟨[], [], []⟩ (told0 _ _) rfl (by ((try simp only [AllL, All, cd_p, cp_p, cv_p, InK, and_true, true_and]); all_goals ((repeat' (first | refine And.intro ?_ ?_ | intro _)) <;> first | omega | exact True.intro | assumption | (simp; done) | rfl | (simp_all; done) | (simp_all; omega)))) ?_
    (refine lwp_cond hC rfl (by first | exact True.intro | ((try simp only [AllL, All, cd_p, cp_p, cv_p, InK, and_true, true_and]); all_goals ((repeat' (first | refine And.intro ?_ ?_ | intro _)) <;> first | omega | exact True.intro | assumption | (simp; done) | rfl | (simp_all; done) | (simp_all; omega)))) (fun hb => ?_) (fun hb => ?_) <;> (try simp only [decide_eq_true_eq, decide_eq_false_iff_not, Bool.not_eq_true', Bool.not_eq_false', ne_eq, Decidable.not_not] at hb))
    · clear hb
      repeat first | refine lwp_seq fun K hK => ?_ | (refine thenS_normal ?_; apply_assumption -exfalso -symm) | refine thenS_exit ?_ | refine thenS_ret ?_ | refine inBlockS_normal ?_ | refine inBlockS_ret ?_ | refine inBlockS_hit rfl ?_ | refine inBlockS_miss rfl ?_ | refine lwp_block ?_ | refine lwp_skip ?_ | refine lwp_exit ?_ | refine lwp_ret ?_ | refine lwp_label ?_ | refine lwp_region hC ⟨[], [], []⟩ (told0 _ _) rfl True.intro ?_ | refine lwp_region hC ⟨[], [], []⟩ (told0 _ _) rfl (by ((try simp only [AllL, All, cd_p, cp_p, cv_p, InK, and_true, true_and]); all_goals ((repeat' (first | refine And.intro ?_ ?_ | intro _)) <;> first | omega | exact True.intro | assumption | (simp; done) | rfl | (simp_all; done) | (simp_all; omega)))) ?_
      (refine lwp_region hC ⟨[], [(1, custIdx 1)], []⟩ ⟨(fun p hp => by rcases List.mem_cons.1 hp with rfl | hp; rw [hP]; exact custIdx_ok _; cases hp), (fun _ h => (by cases h))⟩ rfl ?_ ?_; rotate_left 1)
      · repeat first | refine lwp_seq fun K hK => ?_ | (refine thenS_normal ?_; apply_assumption -exfalso -symm) | refine thenS_exit ?_ | refine thenS_ret ?_ | refine inBlockS_normal ?_ | refine inBlockS_ret ?_ | refine inBlockS_hit rfl ?_ | refine inBlockS_miss rfl ?_ | refine lwp_block ?_ | refine lwp_skip ?_ | refine lwp_exit ?_ | refine lwp_ret ?_ | refine lwp_label ?_ | refine lwp_region hC ⟨[], [], []⟩ (told0 _ _) rfl True.intro ?_ | refine lwp_region hC ⟨[], [], []⟩ (told0 _ _) rfl (by ((try simp only [AllL, All, cd_p, cp_p, cv_p, InK, and_true, true_and]); all_goals ((repeat' (first | refine And.intro ?_ ?_ | intro _)) <;> first | omega | exact True.intro | assumption | (simp; done) | rfl | (simp_all; done) | (simp_all; omega)))) ?_
        refine thenS_normal ⟨2, ?_, ?_, sub_intro hm [(1, some 1), (2, some 2)] rfl ?_⟩
        · omega
        · omega
        · simp only [All, cd_p, cp_p, cv_p]
          (repeat' refine And.intro ?_ ?_) <;> first | trivial | rfl | omega
      · ((try simp only [AllL, All, cd_p, cp_p, cv_p, InK, and_true, true_and]); all_goals ((repeat' (first | refine And.intro ?_ ?_ | intro _)) <;> first | omega | exact True.intro | assumption | (simp; done) | rfl | (simp_all; done) | (simp_all; omega)))
    · omega
  · repeat first | refine lwp_seq fun K hK => ?_ | (refine thenS_normal ?_; apply_assumption -exfalso -symm) | refine thenS_exit ?_ | refine thenS_ret ?_ | refine inBlockS_normal ?_ | refine inBlockS_ret ?_ | refine inBlockS_hit rfl ?_ | refine inBlockS_miss rfl ?_ | refine lwp_block ?_ | refine lwp_skip ?_ | refine lwp_exit ?_ | refine lwp_ret ?_ | refine lwp_label ?_ | refine lwp_region hC ⟨[], [], []⟩ (told0 _ _) rfl True.intro ?_ | refine lwp_region hC ⟨[], [], []⟩ (told0 _ _) rfl (by ((try simp only [AllL, All, cd_p, cp_p, cv_p, InK, and_true, true_and]); all_goals ((repeat' (first | refine And.intro ?_ ?_ | intro _)) <;> first | omega | exact True.intro | assumption | (simp; done) | rfl | (simp_all; done) | (simp_all; omega)))) ?_
    (refine lwp_cond hC rfl (by first | exact True.intro | ((try simp only [AllL, All, cd_p, cp_p, cv_p, InK, and_true, true_and]); all_goals ((repeat' (first | refine And.intro ?_ ?_ | intro _)) <;> first | omega | exact True.intro | assumption | (simp; done) | rfl | (simp_all; done) | (simp_all; omega)))) (fun hb => ?_) (fun hb => ?_) <;> (try simp only [decide_eq_true_eq, decide_eq_false_iff_not, Bool.not_eq_true', Bool.not_eq_false', ne_eq, Decidable.not_not] at hb))
    · clear hb
      repeat first | refine lwp_seq fun K hK => ?_ | (refine thenS_normal ?_; apply_assumption -exfalso -symm) | refine thenS_exit ?_ | refine thenS_ret ?_ | refine inBlockS_normal ?_ | refine inBlockS_ret ?_ | refine inBlockS_hit rfl ?_ | refine inBlockS_miss rfl ?_ | refine lwp_block ?_ | refine lwp_skip ?_ | refine lwp_exit ?_ | refine lwp_ret ?_ | refine lwp_label ?_ | refine lwp_region hC ⟨[], [], []⟩ (told0 _ _) rfl True.intro ?_ | refine lwp_region hC ⟨[], [], []⟩ (told0 _ _) rfl (by ((try simp only [AllL, All, cd_p, cp_p, cv_p, InK, and_true, true_and]); all_goals ((repeat' (first | refine And.intro ?_ ?_ | intro _)) <;> first | omega | exact True.intro | assumption | (simp; done) | rfl | (simp_all; done) | (simp_all; omega)))) ?_
      (refine lwp_region hC ⟨[], [(1, custIdx 2)], []⟩ ⟨(fun p hp => by rcases List.mem_cons.1 hp with rfl | hp; rw [hP]; exact custIdx_ok _; cases hp), (fun _ h => (by cases h))⟩ rfl ?_ ?_; rotate_left 1)
      · repeat first | refine lwp_seq fun K hK => ?_ | (refine thenS_normal ?_; apply_assumption -exfalso -symm) | refine thenS_exit ?_ | refine thenS_ret ?_ | refine inBlockS_normal ?_ | refine inBlockS_ret ?_ | refine inBlockS_hit rfl ?_ | refine inBlockS_miss rfl ?_ | refine lwp_block ?_ | refine lwp_skip ?_ | refine lwp_exit ?_ | refine lwp_ret ?_ | refine lwp_label ?_ | refine lwp_region hC ⟨[], [], []⟩ (told0 _ _) rfl True.intro ?_ | refine lwp_region hC ⟨[], [], []⟩ (told0 _ _) rfl (by ((try simp only [AllL, All, cd_p, cp_p, cv_p, InK, and_true, true_and]); all_goals ((repeat' (first | refine And.intro ?_ ?_ | intro _)) <;> first | omega | exact True.intro | assumption | (simp; done) | rfl | (simp_all; done) | (simp_all; omega)))) ?_
        refine thenS_normal ⟨3, ?_, ?_, sub_intro hm [(1, some 1), (2, some 2)] rfl ?_⟩
        · omega
        · omega
        · simp only [All, cd_p, cp_p, cv_p]
          (repeat' refine And.intro ?_ ?_) <;> first | trivial | rfl | omega
      · ((try simp only [AllL, All, cd_p, cp_p, cv_p, InK, and_true, true_and]); all_goals ((repeat' (first | refine And.intro ?_ ?_ | intro _)) <;> first | omega | exact True.intro | assumption | (simp; done) | rfl | (simp_all; done) | (simp_all; omega)))
    · omega
  · repeat first | refine lwp_seq fun K hK => ?_ | (refine thenS_normal ?_; apply_assumption -exfalso -symm) | refine thenS_exit ?_ | refine thenS_ret ?_ | refine inBlockS_normal ?_ | refine inBlockS_ret ?_ | refine inBlockS_hit rfl ?_ | refine inBlockS_miss rfl ?_ | refine lwp_block ?_ | refine lwp_skip ?_ | refine lwp_exit ?_ | refine lwp_ret ?_ | refine lwp_label ?_ | refine lwp_region hC ⟨[], [], []⟩ (told0 _ _) rfl True.intro ?_ | refine lwp_region hC ⟨[], [], []⟩ (told0 _ _) rfl (by ((try simp only [AllL, All, cd_p, cp_p, cv_p, InK, and_true, true_and]); all_goals ((repeat' (first | refine And.intro ?_ ?_ | intro _)) <;> first | omega | exact True.intro | assumption | (simp; done) | rfl | (simp_all; done) | (simp_all; omega)))) ?_
    (refine lwp_cond hC rfl (by first | exact True.intro | ((try simp only [AllL, All, cd_p, cp_p, cv_p, InK, and_true, true_and]); all_goals ((repeat' (first | refine And.intro ?_ ?_ | intro _)) <;> first | omega | exact True.intro | assumption | (simp; done) | rfl | (simp_all; done) | (simp_all; omega)))) (fun hb => ?_) (fun hb => ?_) <;> (try simp only [decide_eq_true_eq, decide_eq_false_iff_not, Bool.not_eq_true', Bool.not_eq_false', ne_eq, Decidable.not_not] at hb))
    · clear hb
      repeat first | refine lwp_seq fun K hK => ?_ | (refine thenS_normal ?_; apply_assumption -exfalso -symm) | refine thenS_exit ?_ | refine thenS_ret ?_ | refine inBlockS_normal ?_ | refine inBlockS_ret ?_ | refine inBlockS_hit rfl ?_ | refine inBlockS_miss rfl ?_ | refine lwp_block ?_ | refine lwp_skip ?_ | refine lwp_exit ?_ | refine lwp_ret ?_ | refine lwp_label ?_ | refine lwp_region hC ⟨[], [], []⟩ (told0 _ _) rfl True.intro ?_ | refine lwp_region hC ⟨[], [], []⟩ (told0 _ _) rfl (by ((try simp only [AllL, All, cd_p, cp_p, cv_p, InK, and_true, true_and]); all_goals ((repeat' (first | refine And.intro ?_ ?_ | intro _)) <;> first | omega | exact True.intro | assumption | (simp; done) | rfl | (simp_all; done) | (simp_all; omega)))) ?_
      (refine lwp_region hC ⟨[], [(1, custIdx 3)], []⟩ ⟨(fun p hp => by rcases List.mem_cons.1 hp with rfl | hp; rw [hP]; exact custIdx_ok _; cases hp), (fun _ h => (by cases h))⟩ rfl ?_ ?_; rotate_left 1)
      · repeat first | refine lwp_seq fun K hK => ?_ | (refine thenS_normal ?_; apply_assumption -exfalso -symm) | refine thenS_exit ?_ | refine thenS_ret ?_ | refine inBlockS_normal ?_ | refine inBlockS_ret ?_ | refine inBlockS_hit rfl ?_ | refine inBlockS_miss rfl ?_ | refine lwp_block ?_ | refine lwp_skip ?_ | refine lwp_exit ?_ | refine lwp_ret ?_ | refine lwp_label ?_ | refine lwp_region hC ⟨[], [], []⟩ (told0 _ _) rfl True.intro ?_ | refine lwp_region hC ⟨[], [], []⟩ (told0 _ _) rfl (by ((try simp only [AllL, All, cd_p, cp_p, cv_p, InK, and_true, true_and]); all_goals ((repeat' (first | refine And.intro ?_ ?_ | intro _)) <;> first | omega | exact True.intro | assumption | (simp; done) | rfl | (simp_all; done) | (simp_all; omega)))) ?_
        refine thenS_normal ⟨4, ?_, ?_, sub_intro hm [(1, some 1), (2, some 2)] rfl ?_⟩
        · omega
        · omega
        · simp only [All, cd_p, cp_p, cv_p]
          (repeat' refine And.intro ?_ ?_) <;> first | trivial | rfl | omega
      · ((try simp only [AllL, All, cd_p, cp_p, cv_p, InK, and_true, true_and]); all_goals ((repeat' (first | refine And.intro ?_ ?_ | intro _)) <;> first | omega | exact True.intro | assumption | (simp; done) | rfl | (simp_all; done) | (simp_all; omega)))
    · omega
  · repeat first | refine lwp_seq fun K hK => ?_ | (refine thenS_normal ?_; apply_assumption -exfalso -symm) | refine thenS_exit ?_ | refine thenS_ret ?_ | refine inBlockS_normal ?_ | refine inBlockS_ret ?_ | refine inBlockS_hit rfl ?_ | refine inBlockS_miss rfl ?_ | refine lwp_block ?_ | refine lwp_skip ?_ | refine lwp_exit ?_ | refine lwp_ret ?_ | refine lwp_label ?_ | refine lwp_region hC ⟨[], [], []⟩ (told0 _ _) rfl True.intro ?_ | refine lwp_region hC ⟨[], [], []⟩ (told0 _ _) rfl (by ((try simp only [AllL, All, cd_p, cp_p, cv_p, InK, and_true, true_and]); all_goals ((repeat' (first | refine And.intro ?_ ?_ | intro _)) <;> first | omega | exact True.intro | assumption | (simp; done) | rfl | (simp_all; done) | (simp_all; omega)))) ?_
    (refine lwp_cond hC rfl (by first | exact True.intro | ((try simp only [AllL, All, cd_p, cp_p, cv_p, InK, and_true, true_and]); all_goals ((repeat' (first | refine And.intro ?_ ?_ | intro _)) <;> first | omega | exact True.intro | assumption | (simp; done) | rfl | (simp_all; done) | (simp_all; omega)))) (fun hb => ?_) (fun hb => ?_) <;> (try simp only [decide_eq_true_eq, decide_eq_false_iff_not, Bool.not_eq_true', Bool.not_eq_false', ne_eq, Decidable.not_not] at hb))
    · omega
    · repeat first | refine lwp_seq fun K hK => ?_ | (refine thenS_normal ?_; apply_assumption -exfalso -symm) | refine thenS_exit ?_ | refine thenS_ret ?_ | refine inBlockS_normal ?_ | refine inBlockS_ret ?_ | refine inBlockS_hit rfl ?_ | refine inBlockS_miss rfl ?_ | refine lwp_block ?_ | refine lwp_skip ?_ | refine lwp_exit ?_ | refine lwp_ret ?_ | refine lwp_label ?_ | refine lwp_region hC ⟨[], [], []⟩ (told0 _ _) rfl True.intro ?_ | refine lwp_region hC ⟨[], [], []⟩ (told0 _ _) rfl (by ((try simp only [AllL, All, cd_p, cp_p, cv_p, InK, and_true, true_and]); all_goals ((repeat' (first | refine And.intro ?_ ?_ | intro _)) <;> first | omega | exact True.intro | assumption | (simp; done) | rfl | (simp_all; done) | (simp_all; omega)))) ?_
      (refine end_intro (by first | exact .inr rfl | exact .inl rfl) [] rfl ?_)
      simp only [All, cd_p, cp_p, cv_p]
      (repeat' refine And.intro ?_ ?_) <;> first | trivial | rfl | omega

end Go.Proofs.YtbpffadffbgloaaGreatDoor
