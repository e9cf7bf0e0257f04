/- Contracts: a slice compared with nil, slices.Clone, Own, Traced, the program's and the reference's. -/
import Derived.Test.YtoopgdchiljmiaaGreatDoorHf
set_option linter.unusedVariables false
set_option linter.unusedSimpArgs false
namespace Go.Proofs.YtoopgdchiljmiaaGreatDoor
open Go.RowKit Go.Sym

theorem spC_one (l : List (Int × Int)) (q : Nat) (_ : q < l.length * 2) : ([Value.int .i64 (l.getD (q / 2) (0, 0)).1, Value.int .i64 (l.getD (q / 2) (0, 0)).2].getD (q % 2) undef).oneCell' = true := by
  rcases (by omega : q % 2 = 0 ∨ q % 2 = 1) with h | h <;> rw [h] <;> rfl

section
variable {P : Program} {w : World}
theorem equal_nil {t e : TypeId} (hu : (underlying t).run P w = .ok (.slice e) w) (A : Option Addr) (n c : Nat) : (Op.equal t (.slice A n c) (.slice none 0 0)).run P w = .ok A.isNone w := by
  have : Op.maxDepth = 9999 + 1 := rfl
  rw [Op.equal, this, Op.equalIn]
  cases A <;> simp [hu]
end
section
variable {cfg : Cfg} {F : Frm} {T : List (Nat × AV)} {H : List (Nat × Chunk)} {nx : Nat}
/-- More numbers may be held in use. -/
theorem lwp_nx {c : Code} {Q : Exit → St → Prop} (nx' : Nat) (h : Nat.ble nx nx' = true) (hl : LWP F c Q ⟨T, H, nx'⟩) : LWP F c Q ⟨T, H, nx⟩ :=
  ⟨fun ρ a w hs => hl.out ρ a w ⟨Nat.le_trans hs.m (Nat.le_of_ble_eq_true h), hs.I.sub (fun _ _ _ e => Nat.lt_of_lt_of_le e (Nat.le_of_ble_eq_true h)) (fun _ _ e => e) (fun _ _ e => e)⟩⟩
/-- A slice that may be nil, compared with nil: it is empty if it is. -/
theorem lwp_nilq (hC : CfgOk F cfg) {id : Nat} {ops : Array Oper} {Q : Exit → St → Prop} {src d0 d1 i n sz : Nat} {c : Cont} {t0 t1 e : TypeId} {s1 s2 : Nat} {z : Value} {o0 o1 : Oper} (hty : Sym.look t0 cfg.tys = some ⟨.slice e, s1, s2, z⟩) (hT : Sym.look src T = some (.sl i n)) (hH : Sym.look i H = some (.ro n sz c)) (hsz : Nat.blt 0 sz = true)
    (hs : ops.size = 2) (h0 : ops[0]? = some o0) (h1 : ops[1]? = some o1) (g0 : o0.guard = none) (g1 : o1.guard = none) (e0 : o0.dst = some d0) (e1 : o1.dst = some d1)
    (p0 : o0.op = .move (.tmp src)) (p1 : o1.op = .binOp .eql t0 (.tmp d0) (.const (.slice none 0 0)) t1) (n0 : Nat.blt d0 cfg.nt = true) (n1 : Nat.blt d1 cfg.nt = true)
    (hq : ∀ b : Bool, (b = true → n = 0) → Q .normal ⟨(d1, .lit (.bool b)) :: (d0, .sl i n) :: T, H, nx⟩) : LWP F (.region id ops false) Q ⟨T, H, nx⟩ := ⟨fun ρ a w hH0 => by
  have hH0 : Holds F T H nx ρ a w := hH0
  refine wpIn_region ?_
  have hr : List.range ops.size = [0, 1] := by rw [hs]; rfl
  obtain ⟨v, hv, hva⟩ := hH0.I.tm src _ hT
  have hv2 := hv
  simp only [AV.den, Option.map_eq_some_iff] at hv2
  obtain ⟨L, hL, rfl⟩ := hv2
  have hch := hH0.I.heap.holds i _ hH
  obtain ⟨L', vs, c1, c2, c3, c4, c5, c6⟩ := hch
  rw [hL] at c1; cases c1
  have hb : L.ad.isNone = true → n = 0 := by
    intro hn
    rcases Nat.eq_zero_or_pos n with h | h
    · exact h
    · obtain ⟨ad, e1, _⟩ := c6 (Nat.mul_pos h (Nat.le_of_ble_eq_true hsz))
      rw [e1] at hn; cases hn
  rw [hr, wpOpsIn_cons]
  refine op_wpIn h0 g0 (by rw [p0]; intro c hc; cases hc) (v := .slice L.ad n L.cap) (w' := w) (by simp [execOp, p0, eval_tmp hva]) ?_
  rw [e0]
  have H1 : Holds F ((d0, .sl i n) :: T) H nx ρ (a.put (some d0) (.slice L.ad n L.cap)) w := putT_sound hC hH0 (d := some d0) (r := .sl i n) (by simp only [putT, n0]) hv
  have ev1 : (a.put (some d0) (.slice L.ad n L.cap)).eval (.tmp d0) = .slice L.ad n L.cap := eval_tmp (put_at _ (by rw [hH0.I.size, ← hC.nt]; exact Nat.le_of_ble_eq_true n0))
  rw [wpOpsIn_cons]
  have hu := tv_under (w := w) hC.tv hty
  simp only at hu
  refine op_wpIn h1 g1 (by rw [p1]; intro c hc; cases hc) (v := .bool L.ad.isNone) (w' := w) (by
    have hg : ∀ x y, (eqGuard .eql t0 x y (.slice L.ad n L.cap) (.slice none 0 0)).run F.P w = .ok () w := fun x y => by unfold eqGuard; rfl
    simp only [execOp, p1, ev1, show ∀ (a : Act) v, a.eval (.const v) = v from fun _ _ => rfl, Sem.run_bind, hg, Result.andThen_ok, binOp, equal_nil hu, Sem.run_pure]) ?_
  rw [e1]
  have H2 : Holds F ((d1, .lit (.bool L.ad.isNone)) :: (d0, .sl i n) :: T) H nx ρ _ w := putT_sound hC H1 (d := some d1) (r := .lit (.bool L.ad.isNone)) (v := .bool L.ad.isNone) (by simp only [putT, n1]) (by simp [AV.den])
  simp only [wpOpsIn]
  exact ⟨_, ρ, hq _ hb, H2⟩⟩
end

def Clone_i (l : List (Int × Int)) (σ : Ren) : Inst := { f := 152, hin := [(0, .ro l.length 2 (spC l))], args := [.sl 0 l.length], hout := [(1, .row 168 l.length 2 (spC l))], ret := .sl 1 l.length, σ := σ }
set_option maxRecDepth 20000 in
theorem Clone_s (l : List (Int × Int)) (σ : Ren) (h : l.length ≤ 1000000) : (Clone_i l σ).ok Tryz.prog := by
  unfold Clone_i Inst.ok; dsimp only; refine spec_of_body (tys := tys) 1 Tryz.func152 (by kernel_rfl) rfl tys_ok rfl (Nat.le_of_ble_eq_true rfl) (fun _ _ h => (by cases h)) fun F hP hm hC hrd => ?_; conv => whnf
  refine lwp_seq fun K hK => ?_
  (refine lwp_region hC ⟨[], [], []⟩ (told0 _ _) rfl ?_ ?_; rotate_left 1)
  · refine thenS_normal ?_
    apply_assumption -exfalso -symm
    refine lwp_seq fun K hK => ?_
    refine lwp_seq fun K hK => ?_
    refine lwp_nilq hC rfl rfl rfl rfl rfl rfl rfl rfl rfl rfl rfl rfl rfl rfl rfl ?_
    intro b hb0
    repeat first | refine lwp_seq fun K hK => ?_ | ((with_reducible refine thenS_normal ?_); apply_assumption -exfalso -symm) | refine thenS_exit ?_ | refine thenS_ret ?_ | refine inBlockS_normal ?_ | refine inBlockS_ret ?_ | refine inBlockS_hit rfl ?_ | refine inBlockS_miss rfl ?_ | refine lwp_block ?_ | refine lwp_skip ?_ | refine lwp_exit ?_ | refine lwp_ret ?_ | refine lwp_label ?_ | refine lwp_region hC ⟨[], [], []⟩ (told0 _ _) rfl True.intro ?_
    (refine lwp_cond hC rfl (by first | exact True.intro | ((try simp only [AllL, All, cd_p, cp_p, cv_p, InK, and_true, true_and]); all_goals ((repeat' (first | refine And.intro ?_ ?_ | intro _)) <;> first | omega | exact True.intro | assumption | (simp; done) | rfl | (simp_all; done) | (simp_all; omega)))) (fun hb => ?_) (fun hb => ?_) <;> (try simp only [decide_eq_true_eq, decide_eq_false_iff_not, Bool.not_eq_true', Bool.not_eq_false', ne_eq, Decidable.not_not] at hb))
    · have h0 := hb0 hb
      refine lwp_nx 2 rfl ?_
      repeat first | refine lwp_seq fun K hK => ?_ | ((with_reducible refine thenS_normal ?_); apply_assumption -exfalso -symm) | refine thenS_exit ?_ | refine thenS_ret ?_ | refine inBlockS_normal ?_ | refine inBlockS_ret ?_ | refine inBlockS_hit rfl ?_ | refine inBlockS_miss rfl ?_ | refine lwp_block ?_ | refine lwp_skip ?_ | refine lwp_exit ?_ | refine lwp_ret ?_ | refine lwp_label ?_ | refine lwp_region hC ⟨[], [], []⟩ (told0 _ _) rfl True.intro ?_
      (refine end_intro (by first | exact .inr rfl | exact .inl rfl) [(1, none)] rfl ?_)
      refine ⟨⟨h0, ?_⟩, h0, trivial⟩
      obtain rfl := List.eq_nil_of_length_eq_zero h0
      rfl
    · repeat first | refine lwp_seq fun K hK => ?_ | ((with_reducible refine thenS_normal ?_); apply_assumption -exfalso -symm) | refine thenS_exit ?_ | refine thenS_ret ?_ | refine inBlockS_normal ?_ | refine inBlockS_ret ?_ | refine inBlockS_hit rfl ?_ | refine inBlockS_miss rfl ?_ | refine lwp_block ?_ | refine lwp_skip ?_ | refine lwp_exit ?_ | refine lwp_ret ?_ | refine lwp_label ?_ | refine lwp_region hC ⟨[], [], []⟩ (told0 _ _) rfl True.intro ?_
      (refine lwp_region hC ⟨[], [], []⟩ (told0 _ _) rfl ?_ ?_; rotate_left 1)
      · repeat first | refine lwp_seq fun K hK => ?_ | ((with_reducible refine thenS_normal ?_); apply_assumption -exfalso -symm) | refine thenS_exit ?_ | refine thenS_ret ?_ | refine inBlockS_normal ?_ | refine inBlockS_ret ?_ | refine inBlockS_hit rfl ?_ | refine inBlockS_miss rfl ?_ | refine lwp_block ?_ | refine lwp_skip ?_ | refine lwp_exit ?_ | refine lwp_ret ?_ | refine lwp_label ?_ | refine lwp_region hC ⟨[], [], []⟩ (told0 _ _) rfl True.intro ?_
        (refine end_intro (by first | exact .inr rfl | exact .inl rfl) [(1, some 2)] rfl ?_)
        have e : (spC l).cells = (catC (Cont.exp (repL 0 (List.map AV.lit #[Value.int .i64 0, Value.int .i64 0].toList))) (spC l)).cells := by rw [catC_cells]; rfl
        simp only [All, cd_p, cp_p, cv_p, Nat.zero_add]
        (repeat' refine And.intro ?_ ?_) <;> first | exact e | trivial | rfl
      · simp only [AllL, All, cd_p, cp_p, cv_p, InK, and_true, true_and]
        exact ⟨by omega, spC_one l⟩
  · trivial

def rnOw (N : Nat) (t : Rn) : List (Nat × Chunk) := [(N, .ro t.smp.length 1 (flC t.smp)), (N + 1, .ro t.holes.length 2 (spC t.holes))]
/-- What Own makes: nothing is not owned. -/
def flK : List Nat → Chunk
  | [] => .ro 0 1 (flC [])
  | x :: l => .row 134 (l.length + 1) 1 (flC (x :: l))
def spK : List (Int × Int) → Chunk
  | [] => .ro 0 2 (spC [])
  | x :: l => .row 168 (l.length + 1) 2 (spC (x :: l))
def OwnR_i (t : Rn) (σ : Ren) : Inst := { f := 119, hin := rnIn t, args := [rnA 0 1 t], hout := [(2, flK t.smp), (3, spK t.holes)], ret := rnA 2 3 t, σ := σ }
theorem flC_one (l : List Nat) (q : Nat) (_ : q < l.length * 1) : ([Value.float .f32 (l.getD (q / 1) 0)].getD (q % 1) undef).oneCell' = true := by rw [Nat.mod_one]; rfl
set_option maxRecDepth 20000 in
set_option maxHeartbeats 4000000 in
theorem OwnR_s (t : Rn) (σ : Ren) (h1 : t.smp.length ≤ 1000000) (h2 : t.holes.length ≤ 1000000) : (OwnR_i t σ).ok Tryz.prog := by
  obtain ⟨nm, f, l, hs⟩ := t
  dsimp only at h1 h2
  rcases l with _ | ⟨x, l⟩ <;> rcases hs with _ | ⟨y, hs⟩
  · unfold OwnR_i Inst.ok; dsimp only; refine spec_of_body (tys := tys) 2 Tryz.func119 (by kernel_rfl) rfl tys_ok rfl (Nat.le_of_ble_eq_true rfl) (fun _ _ h => (by cases h)) fun F hP hm hC hrd => ?_; conv => whnf
    refine lwp_seq fun K hK => ?_
    (refine lwp_region hC ⟨[], [], []⟩ (told0 _ _) rfl ?_ ?_; rotate_left 1)
    · refine thenS_normal ?_
      apply_assumption -exfalso -symm
      refine lwp_seq fun K hK => ?_
      (refine lwp_drawn hC (by rw [hP]; exact mixed) ⟨[(4, { b := some true }), (8, { b := some true })], [], []⟩ (told0 _ _) [0, 1, 0, 4, 0, 0, 32, 112, 0, 0, 512, 2032, 4095, 8191] 12 rfl ?_ ?_; rotate_left 1)
      · repeat first | refine lwp_seq fun K hK => ?_ | ((with_reducible refine thenS_normal ?_); apply_assumption -exfalso -symm) | refine thenS_exit ?_ | refine thenS_ret ?_ | refine inBlockS_normal ?_ | refine inBlockS_ret ?_ | refine inBlockS_hit rfl ?_ | refine inBlockS_miss rfl ?_ | refine lwp_block ?_ | refine lwp_skip ?_ | refine lwp_exit ?_ | refine lwp_ret ?_ | refine lwp_label ?_ | refine lwp_region hC ⟨[], [], []⟩ (told0 _ _) rfl True.intro ?_
        (refine end_intro (by first | exact .inr rfl | exact .inl rfl) [(2, some 5), (3, some 7)] rfl ?_)
        simp only [All, cd_p, cp_p, cv_p]
        (repeat' refine And.intro ?_ ?_) <;> first | trivial | rfl
      · simp only [AllL, All, cd_p, cp_p, cv_p, InK]
        (repeat' refine And.intro ?_ ?_) <;> first | trivial | rfl | exact flC_one [] | exact spC_one [] | (simp only [List.length_cons, List.length_nil] at *; omega)
    · ((try simp only [AllL, All, cd_p, cp_p, cv_p, InK, and_true, true_and]); all_goals ((repeat' (first | refine And.intro ?_ ?_ | intro _)) <;> first | omega | exact True.intro | assumption | (simp; done) | rfl | (simp_all; done) | (simp_all; omega)))
  · unfold OwnR_i Inst.ok; dsimp only; refine spec_of_body (tys := tys) 2 Tryz.func119 (by kernel_rfl) rfl tys_ok rfl (Nat.le_of_ble_eq_true rfl) (fun _ _ h => (by cases h)) fun F hP hm hC hrd => ?_; conv => whnf
    refine lwp_seq fun K hK => ?_
    (refine lwp_region hC ⟨[], [], []⟩ (told0 _ _) rfl ?_ ?_; rotate_left 1)
    · refine thenS_normal ?_
      apply_assumption -exfalso -symm
      refine lwp_seq fun K hK => ?_
      (refine lwp_drawn hC (by rw [hP]; exact mixed) ⟨[(4, { b := some true }), (8, { b := some true }), (11, { b := some true })], [], []⟩ (told0 _ _) [0, 1, 0, 4, 0, 0, 32, 112, 0, 0, 512, 2032, 4095, 8191] 12 rfl ?_ ?_; rotate_left 1)
      · repeat first | refine lwp_seq fun K hK => ?_ | ((with_reducible refine thenS_normal ?_); apply_assumption -exfalso -symm) | refine thenS_exit ?_ | refine thenS_ret ?_ | refine inBlockS_normal ?_ | refine inBlockS_ret ?_ | refine inBlockS_hit rfl ?_ | refine inBlockS_miss rfl ?_ | refine lwp_block ?_ | refine lwp_skip ?_ | refine lwp_exit ?_ | refine lwp_ret ?_ | refine lwp_label ?_ | refine lwp_region hC ⟨[], [], []⟩ (told0 _ _) rfl True.intro ?_
        (refine end_intro (by first | exact .inr rfl | exact .inl rfl) [(2, some 5), (3, some 7)] rfl ?_)
        simp only [All, cd_p, cp_p, cv_p]
        (repeat' refine And.intro ?_ ?_) <;> first | trivial | rfl
      · simp only [AllL, All, cd_p, cp_p, cv_p, InK]
        (repeat' refine And.intro ?_ ?_) <;> first | trivial | rfl | exact flC_one [] | exact spC_one (y :: hs) | (simp only [List.length_cons, List.length_nil] at *; omega)
    · ((try simp only [AllL, All, cd_p, cp_p, cv_p, InK, and_true, true_and]); all_goals ((repeat' (first | refine And.intro ?_ ?_ | intro _)) <;> first | omega | exact True.intro | assumption | (simp; done) | rfl | (simp_all; done) | (simp_all; omega)))
  · unfold OwnR_i Inst.ok; dsimp only; refine spec_of_body (tys := tys) 2 Tryz.func119 (by kernel_rfl) rfl tys_ok rfl (Nat.le_of_ble_eq_true rfl) (fun _ _ h => (by cases h)) fun F hP hm hC hrd => ?_; conv => whnf
    refine lwp_seq fun K hK => ?_
    (refine lwp_region hC ⟨[], [], []⟩ (told0 _ _) rfl ?_ ?_; rotate_left 1)
    · refine thenS_normal ?_
      apply_assumption -exfalso -symm
      refine lwp_seq fun K hK => ?_
      (refine lwp_drawn hC (by rw [hP]; exact mixed) ⟨[(4, { b := some true }), (8, { b := some true }), (7, { b := some true })], [], []⟩ (told0 _ _) [0, 1, 0, 4, 0, 0, 32, 112, 0, 0, 512, 2032, 4095, 8191] 12 rfl ?_ ?_; rotate_left 1)
      · repeat first | refine lwp_seq fun K hK => ?_ | ((with_reducible refine thenS_normal ?_); apply_assumption -exfalso -symm) | refine thenS_exit ?_ | refine thenS_ret ?_ | refine inBlockS_normal ?_ | refine inBlockS_ret ?_ | refine inBlockS_hit rfl ?_ | refine inBlockS_miss rfl ?_ | refine lwp_block ?_ | refine lwp_skip ?_ | refine lwp_exit ?_ | refine lwp_ret ?_ | refine lwp_label ?_ | refine lwp_region hC ⟨[], [], []⟩ (told0 _ _) rfl True.intro ?_
        (refine end_intro (by first | exact .inr rfl | exact .inl rfl) [(2, some 5), (3, some 7)] rfl ?_)
        simp only [All, cd_p, cp_p, cv_p]
        (repeat' refine And.intro ?_ ?_) <;> first | trivial | rfl
      · simp only [AllL, All, cd_p, cp_p, cv_p, InK]
        (repeat' refine And.intro ?_ ?_) <;> first | trivial | rfl | exact flC_one (x :: l) | exact spC_one [] | (simp only [List.length_cons, List.length_nil] at *; omega)
    · ((try simp only [AllL, All, cd_p, cp_p, cv_p, InK, and_true, true_and]); all_goals ((repeat' (first | refine And.intro ?_ ?_ | intro _)) <;> first | omega | exact True.intro | assumption | (simp; done) | rfl | (simp_all; done) | (simp_all; omega)))
  · unfold OwnR_i Inst.ok; dsimp only; refine spec_of_body (tys := tys) 2 Tryz.func119 (by kernel_rfl) rfl tys_ok rfl (Nat.le_of_ble_eq_true rfl) (fun _ _ h => (by cases h)) fun F hP hm hC hrd => ?_; conv => whnf
    refine lwp_seq fun K hK => ?_
    (refine lwp_region hC ⟨[], [], []⟩ (told0 _ _) rfl ?_ ?_; rotate_left 1)
    · refine thenS_normal ?_
      apply_assumption -exfalso -symm
      refine lwp_seq fun K hK => ?_
      (refine lwp_drawn hC (by rw [hP]; exact mixed) ⟨[(4, { b := some true }), (8, { b := some true }), (7, { b := some true }), (11, { b := some true })], [], []⟩ (told0 _ _) [0, 1, 0, 4, 0, 0, 32, 112, 0, 0, 512, 2032, 4095, 8191] 12 rfl ?_ ?_; rotate_left 1)
      · repeat first | refine lwp_seq fun K hK => ?_ | ((with_reducible refine thenS_normal ?_); apply_assumption -exfalso -symm) | refine thenS_exit ?_ | refine thenS_ret ?_ | refine inBlockS_normal ?_ | refine inBlockS_ret ?_ | refine inBlockS_hit rfl ?_ | refine inBlockS_miss rfl ?_ | refine lwp_block ?_ | refine lwp_skip ?_ | refine lwp_exit ?_ | refine lwp_ret ?_ | refine lwp_label ?_ | refine lwp_region hC ⟨[], [], []⟩ (told0 _ _) rfl True.intro ?_
        (refine end_intro (by first | exact .inr rfl | exact .inl rfl) [(2, some 5), (3, some 7)] rfl ?_)
        simp only [All, cd_p, cp_p, cv_p]
        (repeat' refine And.intro ?_ ?_) <;> first | trivial | rfl
      · simp only [AllL, All, cd_p, cp_p, cv_p, InK]
        (repeat' refine And.intro ?_ ?_) <;> first | trivial | rfl | exact flC_one (x :: l) | exact spC_one (y :: hs) | (simp only [List.length_cons, List.length_nil] at *; omega)
    · ((try simp only [AllL, All, cd_p, cp_p, cv_p, InK, and_true, true_and]); all_goals ((repeat' (first | refine And.intro ?_ ?_ | intro _)) <;> first | omega | exact True.intro | assumption | (simp; done) | rfl | (simp_all; done) | (simp_all; omega)))

theorem cut_x16 (b : Nat) : cutW ((FloatKind.f32.format.mul 1098907648 b).getD 0) = cutW (x16 b) := by rw [mul_comm16]; rfl
def Cut_i (b : Nat) : Inst := { f := 155, hin := [], args := [fl b], hout := [], ret := i64 (cutW (x16 b)), σ := [] }
theorem Cut_s (b : Nat) (h : partS b = 0) : (Cut_i b).ok Tryz.prog := by
  obtain ⟨c1, c2⟩ := part_cut h
  unfold x16 at c2
  have e := cut_x16 b
  rw [← mul_comm16] at c1 c2
  unfold Cut_i Inst.ok; dsimp only; refine spec_of_body (tys := tys) 0 Tryz.func155 (by kernel_rfl) rfl tys_ok rfl (Nat.le_of_ble_eq_true rfl) (fun _ _ h => (by cases h)) fun F hP hm hC hrd => ?_; conv => whnf
  repeat first | refine lwp_seq fun K hK => ?_ | ((with_reducible refine thenS_normal ?_); apply_assumption -exfalso -symm) | refine thenS_exit ?_ | refine thenS_ret ?_ | refine inBlockS_normal ?_ | refine inBlockS_ret ?_ | refine inBlockS_hit rfl ?_ | refine inBlockS_miss rfl ?_ | refine lwp_block ?_ | refine lwp_skip ?_ | refine lwp_exit ?_ | refine lwp_ret ?_ | refine lwp_label ?_ | refine lwp_region hC ⟨[], [], []⟩ (told0 _ _) rfl True.intro ?_
  (refine lwp_region hC ⟨[], [], []⟩ (told0 _ _) rfl ?_ ?_; rotate_left 1)
  · repeat first | refine lwp_seq fun K hK => ?_ | ((with_reducible refine thenS_normal ?_); apply_assumption -exfalso -symm) | refine thenS_exit ?_ | refine thenS_ret ?_ | refine inBlockS_normal ?_ | refine inBlockS_ret ?_ | refine inBlockS_hit rfl ?_ | refine inBlockS_miss rfl ?_ | refine lwp_block ?_ | refine lwp_skip ?_ | refine lwp_exit ?_ | refine lwp_ret ?_ | refine lwp_label ?_ | refine lwp_region hC ⟨[], [], []⟩ (told0 _ _) rfl True.intro ?_
    (refine end_intro (by first | exact .inr rfl | exact .inl rfl) [] rfl ?_)
    exact ⟨e.symm, trivial⟩
  · exact ⟨⟨c2, trivial⟩, ⟨c1, trivial⟩, trivial⟩
def RCut_i (b : Nat) : Inst := { f := 68, hin := [], args := [fl b], hout := [], ret := i64 (cutW (x16 b)), σ := [] }
theorem RCut_s (b : Nat) (h : partS b = 0) : (RCut_i b).ok Tryz.prog := by
  obtain ⟨c1, c2⟩ := part_cut h
  unfold x16 at c2
  have e := cut_x16 b
  rw [← mul_comm16] at c1 c2
  unfold RCut_i Inst.ok; dsimp only; refine spec_of_body (tys := tys) 0 Tryz.func68 (by kernel_rfl) rfl tys_ok rfl (Nat.le_of_ble_eq_true rfl) (fun _ _ h => (by cases h)) fun F hP hm hC hrd => ?_; conv => whnf
  repeat first | refine lwp_seq fun K hK => ?_ | ((with_reducible refine thenS_normal ?_); apply_assumption -exfalso -symm) | refine thenS_exit ?_ | refine thenS_ret ?_ | refine inBlockS_normal ?_ | refine inBlockS_ret ?_ | refine inBlockS_hit rfl ?_ | refine inBlockS_miss rfl ?_ | refine lwp_block ?_ | refine lwp_skip ?_ | refine lwp_exit ?_ | refine lwp_ret ?_ | refine lwp_label ?_ | refine lwp_region hC ⟨[], [], []⟩ (told0 _ _) rfl True.intro ?_
  (refine lwp_region hC ⟨[], [], []⟩ (told0 _ _) rfl ?_ ?_; rotate_left 1)
  · repeat first | refine lwp_seq fun K hK => ?_ | ((with_reducible refine thenS_normal ?_); apply_assumption -exfalso -symm) | refine thenS_exit ?_ | refine thenS_ret ?_ | refine inBlockS_normal ?_ | refine inBlockS_ret ?_ | refine inBlockS_hit rfl ?_ | refine inBlockS_miss rfl ?_ | refine lwp_block ?_ | refine lwp_skip ?_ | refine lwp_exit ?_ | refine lwp_ret ?_ | refine lwp_label ?_ | refine lwp_region hC ⟨[], [], []⟩ (told0 _ _) rfl True.intro ?_
    (refine end_intro (by first | exact .inr rfl | exact .inl rfl) [] rfl ?_)
    exact ⟨e.symm, trivial⟩
  · exact ⟨⟨c2, trivial⟩, ⟨c1, trivial⟩, trivial⟩
/-- The integers of samples. -/
theorem partS_all {t : Rn} (h : runE t = 0) : ∀ b ∈ t.smp, partS b = 0 := by
  rw [runE_eq] at h
  by_cases h1 : headR t = 0
  · rw [if_neg (fun x => x h1)] at h
    by_cases h2 : bodyR t = 0
    · unfold bodyR at h2
      rw [firstS_eq] at h2
      have h3 := h2 _ List.mem_cons_self
      rw [firstS_eq] at h3
      exact fun b hb => h3 _ (List.mem_map.2 ⟨b, hb, rfl⟩)
    · rw [if_pos h2] at h; exact absurd h h2
  · rw [if_pos h1] at h; exact absurd h h1

end Go.Proofs.YtoopgdchiljmiaaGreatDoor
