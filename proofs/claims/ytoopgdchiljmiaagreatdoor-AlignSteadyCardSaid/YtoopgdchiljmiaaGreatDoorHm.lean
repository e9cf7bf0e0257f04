/- Runs: copies, readings, levels; what is valid. -/
import Derived.Test.YtoopgdchiljmiaaGreatDoorHf
set_option linter.unusedVariables false
set_option linter.unusedSimpArgs false
namespace Go.Proofs.YtoopgdchiljmiaaGreatDoor
open Go.RowKit Go.Sym

theorem spC_one (l : List (Int × Int)) (q : Nat) (_ : q < l.length * 2) : ([Value.int .i64 (l.getD (q / 2) (0, 0)).1, Value.int .i64 (l.getD (q / 2) (0, 0)).2].getD (q % 2) undef).oneCell' = true := by
  rcases (by omega : q % 2 = 0 ∨ q % 2 = 1) with h | h <;> rw [h] <;> rfl

section
variable {P : Program} {w : World}
theorem equal_nil {t e : TypeId} (hu : (underlying t).run P w = .ok (.slice e) w) (A : Option Addr) (n c : Nat) : (Op.equal t (.slice A n c) (.slice none 0 0)).run P w = .ok A.isNone w := by
  have : Op.maxDepth = 9999 + 1 := rfl
  rw [Op.equal, this, Op.equalIn]
  cases A <;> simp [hu]
end
section
variable {cfg : Cfg} {F : Frm} {T : List (Nat × AV)} {H : List (Nat × Chunk)} {nx : Nat}
/-- More numbers may be held in use. -/
theorem lwp_nx {c : Code} {Q : Exit → St → Prop} (nx' : Nat) (h : Nat.ble nx nx' = true) (hl : LWP F c Q ⟨T, H, nx'⟩) : LWP F c Q ⟨T, H, nx⟩ :=
  ⟨fun ρ a w hs => hl.out ρ a w ⟨Nat.le_trans hs.m (Nat.le_of_ble_eq_true h), hs.I.sub (fun _ _ _ e => Nat.lt_of_lt_of_le e (Nat.le_of_ble_eq_true h)) (fun _ _ e => e) (fun _ _ e => e)⟩⟩
/-- A slice that may be nil, compared with nil: it is empty if it is. -/
theorem lwp_nilq (hC : CfgOk F cfg) {id : Nat} {ops : Array Oper} {Q : Exit → St → Prop} {src d0 d1 i n sz : Nat} {c : Cont} {t0 t1 e : TypeId} {s1 s2 : Nat} {z : Value} {o0 o1 : Oper} (hty : Sym.look t0 cfg.tys = some ⟨.slice e, s1, s2, z⟩) (hT : Sym.look src T = some (.sl i n)) (hH : Sym.look i H = some (.ro n sz c)) (hsz : Nat.blt 0 sz = true)
    (hs : ops.size = 2) (h0 : ops[0]? = some o0) (h1 : ops[1]? = some o1) (g0 : o0.guard = none) (g1 : o1.guard = none) (e0 : o0.dst = some d0) (e1 : o1.dst = some d1)
    (p0 : o0.op = .move (.tmp src)) (p1 : o1.op = .binOp .eql t0 (.tmp d0) (.const (.slice none 0 0)) t1) (n0 : Nat.blt d0 cfg.nt = true) (n1 : Nat.blt d1 cfg.nt = true)
    (hq : ∀ b : Bool, (b = true → n = 0) → Q .normal ⟨(d1, .lit (.bool b)) :: (d0, .sl i n) :: T, H, nx⟩) : LWP F (.region id ops false) Q ⟨T, H, nx⟩ := ⟨fun ρ a w hH0 => by
  have hH0 : Holds F T H nx ρ a w := hH0
  refine wpIn_region ?_
  have hr : List.range ops.size = [0, 1] := by rw [hs]; rfl
  obtain ⟨v, hv, hva⟩ := hH0.I.tm src _ hT
  have hv2 := hv
  simp only [AV.den, Option.map_eq_some_iff] at hv2
  obtain ⟨L, hL, rfl⟩ := hv2
  have hch := hH0.I.heap.holds i _ hH
  obtain ⟨L', vs, c1, c2, c3, c4, c5, c6⟩ := hch
  rw [hL] at c1; cases c1
  have hb : L.ad.isNone = true → n = 0 := by
    intro hn
    rcases Nat.eq_zero_or_pos n with h | h
    · exact h
    · obtain ⟨ad, e1, _⟩ := c6 (Nat.mul_pos h (Nat.le_of_ble_eq_true hsz))
      rw [e1] at hn; cases hn
  rw [hr, wpOpsIn_cons]
  refine op_wpIn h0 g0 (by rw [p0]; intro c hc; cases hc) (v := .slice L.ad n L.cap) (w' := w) (by simp [execOp, p0, eval_tmp hva]) ?_
  rw [e0]
  have H1 : Holds F ((d0, .sl i n) :: T) H nx ρ (a.put (some d0) (.slice L.ad n L.cap)) w := putT_sound hC hH0 (d := some d0) (r := .sl i n) (by simp only [putT, n0]) hv
  have ev1 : (a.put (some d0) (.slice L.ad n L.cap)).eval (.tmp d0) = .slice L.ad n L.cap := eval_tmp (put_at _ (by rw [hH0.I.size, ← hC.nt]; exact Nat.le_of_ble_eq_true n0))
  rw [wpOpsIn_cons]
  have hu := tv_under (w := w) hC.tv hty
  simp only at hu
  refine op_wpIn h1 g1 (by rw [p1]; intro c hc; cases hc) (v := .bool L.ad.isNone) (w' := w) (by
    have hg : ∀ x y, (eqGuard .eql t0 x y (.slice L.ad n L.cap) (.slice none 0 0)).run F.P w = .ok () w := fun x y => by unfold eqGuard; rfl
    simp only [execOp, p1, ev1, show ∀ (a : Act) v, a.eval (.const v) = v from fun _ _ => rfl, Sem.run_bind, hg, Result.andThen_ok, binOp, equal_nil hu, Sem.run_pure]) ?_
  rw [e1]
  have H2 : Holds F ((d1, .lit (.bool L.ad.isNone)) :: (d0, .sl i n) :: T) H nx ρ _ w := putT_sound hC H1 (d := some d1) (r := .lit (.bool L.ad.isNone)) (v := .bool L.ad.isNone) (by simp only [putT, n1]) (by simp [AV.den])
  simp only [wpOpsIn]
  exact ⟨_, ρ, hq _ hb, H2⟩⟩
end

def Clone_i (l : List (Int × Int)) (σ : Ren) : Inst := { f := 152, hin := [(0, .ro l.length 2 (spC l))], args := [.sl 0 l.length], hout := [(1, .row 168 l.length 2 (spC l))], ret := .sl 1 l.length, σ := σ }
set_option maxRecDepth 20000 in
theorem Clone_s (l : List (Int × Int)) (σ : Ren) (h : l.length ≤ 1000000) : (Clone_i l σ).ok Tryz.prog := by
  unfold Clone_i Inst.ok; dsimp only; refine spec_of_body (tys := tys) 1 Tryz.func152 (by kernel_rfl) rfl tys_ok rfl (Nat.le_of_ble_eq_true rfl) (fun _ _ h => (by cases h)) fun F hP hm hC hrd => ?_; conv => whnf
  refine lwp_seq fun K hK => ?_
  (refine lwp_region hC ⟨[], [], []⟩ (told0 _ _) rfl ?_ ?_; rotate_left 1)
  · refine gA ?_
    apply_assumption -exfalso -symm
    refine lwp_seq fun K hK => ?_
    refine lwp_seq fun K hK => ?_
    refine lwp_nilq hC rfl rfl rfl rfl rfl rfl rfl rfl rfl rfl rfl rfl rfl rfl rfl ?_
    intro b hb0
    repeat first | refine lwp_seq fun K hK => ?_ | ((with_reducible refine gA ?_); apply_assumption -exfalso -symm) | refine gB ?_ | refine gC ?_ | refine gD ?_ | refine gE ?_ | refine gF rfl ?_ | refine gG rfl ?_ | refine gH ?_ | refine gI ?_ | refine gJ ?_ | refine gK ?_ | refine gL ?_ | refine lwp_region hC ⟨[], [], []⟩ (told0 _ _) rfl ⟨⟩ ?_
    (refine lwp_cond hC rfl (by first | exact ⟨⟩ | exact sd) (fun hb => ?_) (fun hb => ?_) <;> (try simp only [decide_eq_true_eq, decide_eq_false_iff_not, Bool.not_eq_true', Bool.not_eq_false', ne_eq, Decidable.not_not] at hb))
    · have h0 := hb0 hb
      refine lwp_nx 2 rfl ?_
      repeat first | refine lwp_seq fun K hK => ?_ | ((with_reducible refine gA ?_); apply_assumption -exfalso -symm) | refine gB ?_ | refine gC ?_ | refine gD ?_ | refine gE ?_ | refine gF rfl ?_ | refine gG rfl ?_ | refine gH ?_ | refine gI ?_ | refine gJ ?_ | refine gK ?_ | refine gL ?_ | refine lwp_region hC ⟨[], [], []⟩ (told0 _ _) rfl ⟨⟩ ?_
      (refine end_intro (by first | exact .inr rfl | exact .inl rfl) [(1, none)] rfl ?_)
      refine ⟨⟨h0, ?_⟩, h0, trivial⟩
      obtain rfl := List.eq_nil_of_length_eq_zero h0
      rfl
    · repeat first | refine lwp_seq fun K hK => ?_ | ((with_reducible refine gA ?_); apply_assumption -exfalso -symm) | refine gB ?_ | refine gC ?_ | refine gD ?_ | refine gE ?_ | refine gF rfl ?_ | refine gG rfl ?_ | refine gH ?_ | refine gI ?_ | refine gJ ?_ | refine gK ?_ | refine gL ?_ | refine lwp_region hC ⟨[], [], []⟩ (told0 _ _) rfl ⟨⟩ ?_
      (refine lwp_region hC ⟨[], [], []⟩ (told0 _ _) rfl ?_ ?_; rotate_left 1)
      · repeat first | refine lwp_seq fun K hK => ?_ | ((with_reducible refine gA ?_); apply_assumption -exfalso -symm) | refine gB ?_ | refine gC ?_ | refine gD ?_ | refine gE ?_ | refine gF rfl ?_ | refine gG rfl ?_ | refine gH ?_ | refine gI ?_ | refine gJ ?_ | refine gK ?_ | refine gL ?_ | refine lwp_region hC ⟨[], [], []⟩ (told0 _ _) rfl ⟨⟩ ?_
        (refine end_intro (by first | exact .inr rfl | exact .inl rfl) [(1, some 2)] rfl ?_)
        have e : (spC l).cells = (catC (Cont.exp (repL 0 (List.map AV.lit #[Value.int .i64 0, Value.int .i64 0].toList))) (spC l)).cells := by rw [catC_cells]; rfl
        simp only [All, cd_p, cp_p, cv_p, Nat.zero_add]
        (repeat' refine And.intro ?_ ?_) <;> first | exact e | trivial | rfl
      · simp only [AllL, All, cd_p, cp_p, cv_p, InK, and_true, true_and]
        exact ⟨by omega, spC_one l⟩
  · trivial

def rnOw (N : Nat) (t : Rn) : List (Nat × Chunk) := [(N, .ro t.smp.length 1 (flC t.smp)), (N + 1, .ro t.holes.length 2 (spC t.holes))]
/-- What Own makes: nothing is not owned. -/
def flK : List Nat → Chunk
  | [] => .ro 0 1 (flC [])
  | x :: l => .row 134 (l.length + 1) 1 (flC (x :: l))
def spK : List (Int × Int) → Chunk
  | [] => .ro 0 2 (spC [])
  | x :: l => .row 168 (l.length + 1) 2 (spC (x :: l))
def OwnR_i (t : Rn) (σ : Ren) : Inst := { f := 119, hin := rnIn t, args := [rnA 0 1 t], hout := [(2, flK t.smp), (3, spK t.holes)], ret := rnA 2 3 t, σ := σ }
theorem flC_one (l : List Nat) (q : Nat) (_ : q < l.length * 1) : ([Value.float .f32 (l.getD (q / 1) 0)].getD (q % 1) undef).oneCell' = true := by rw [Nat.mod_one]; rfl
set_option maxRecDepth 20000 in
set_option maxHeartbeats 4000000 in
theorem OwnR_s (t : Rn) (σ : Ren) (h1 : t.smp.length ≤ 1000000) (h2 : t.holes.length ≤ 1000000) : (OwnR_i t σ).ok Tryz.prog := by
  obtain ⟨nm, f, l, hs⟩ := t
  dsimp only at h1 h2
  rcases l with _ | ⟨x, l⟩ <;> rcases hs with _ | ⟨y, hs⟩
  · unfold OwnR_i Inst.ok; dsimp only; refine spec_of_body (tys := tys) 2 Tryz.func119 (by kernel_rfl) rfl tys_ok rfl (Nat.le_of_ble_eq_true rfl) (fun _ _ h => (by cases h)) fun F hP hm hC hrd => ?_; conv => whnf
    refine lwp_seq fun K hK => ?_
    (refine lwp_region hC ⟨[], [], []⟩ (told0 _ _) rfl ?_ ?_; rotate_left 1)
    · refine gA ?_
      apply_assumption -exfalso -symm
      refine lwp_seq fun K hK => ?_
      (refine lwp_drawn hC (by rw [hP]; exact mixed) ⟨[(4, { b := some true }), (8, { b := some true })], [], []⟩ (told0 _ _) [0, 1, 0, 4, 0, 0, 32, 112, 0, 0, 512, 2032, 4095, 8191] 12 rfl ?_ ?_; rotate_left 1)
      · repeat first | refine lwp_seq fun K hK => ?_ | ((with_reducible refine gA ?_); apply_assumption -exfalso -symm) | refine gB ?_ | refine gC ?_ | refine gD ?_ | refine gE ?_ | refine gF rfl ?_ | refine gG rfl ?_ | refine gH ?_ | refine gI ?_ | refine gJ ?_ | refine gK ?_ | refine gL ?_ | refine lwp_region hC ⟨[], [], []⟩ (told0 _ _) rfl ⟨⟩ ?_
        (refine end_intro (by first | exact .inr rfl | exact .inl rfl) [(2, some 5), (3, some 7)] rfl ?_)
        simp only [All, cd_p, cp_p, cv_p]
        (repeat' refine And.intro ?_ ?_) <;> first | trivial | rfl
      · simp only [AllL, All, cd_p, cp_p, cv_p, InK]
        (repeat' refine And.intro ?_ ?_) <;> first | trivial | rfl | exact flC_one [] | exact spC_one [] | (simp only [List.length_cons, List.length_nil] at *; omega)
    · exact sd
  · unfold OwnR_i Inst.ok; dsimp only; refine spec_of_body (tys := tys) 2 Tryz.func119 (by kernel_rfl) rfl tys_ok rfl (Nat.le_of_ble_eq_true rfl) (fun _ _ h => (by cases h)) fun F hP hm hC hrd => ?_; conv => whnf
    refine lwp_seq fun K hK => ?_
    (refine lwp_region hC ⟨[], [], []⟩ (told0 _ _) rfl ?_ ?_; rotate_left 1)
    · refine gA ?_
      apply_assumption -exfalso -symm
      refine lwp_seq fun K hK => ?_
      (refine lwp_drawn hC (by rw [hP]; exact mixed) ⟨[(4, { b := some true }), (8, { b := some true }), (11, { b := some true })], [], []⟩ (told0 _ _) [0, 1, 0, 4, 0, 0, 32, 112, 0, 0, 512, 2032, 4095, 8191] 12 rfl ?_ ?_; rotate_left 1)
      · repeat first | refine lwp_seq fun K hK => ?_ | ((with_reducible refine gA ?_); apply_assumption -exfalso -symm) | refine gB ?_ | refine gC ?_ | refine gD ?_ | refine gE ?_ | refine gF rfl ?_ | refine gG rfl ?_ | refine gH ?_ | refine gI ?_ | refine gJ ?_ | refine gK ?_ | refine gL ?_ | refine lwp_region hC ⟨[], [], []⟩ (told0 _ _) rfl ⟨⟩ ?_
        (refine end_intro (by first | exact .inr rfl | exact .inl rfl) [(2, some 5), (3, some 7)] rfl ?_)
        simp only [All, cd_p, cp_p, cv_p]
        (repeat' refine And.intro ?_ ?_) <;> first | trivial | rfl
      · simp only [AllL, All, cd_p, cp_p, cv_p, InK]
        (repeat' refine And.intro ?_ ?_) <;> first | trivial | rfl | exact flC_one [] | exact spC_one (y :: hs) | (simp only [List.length_cons, List.length_nil] at *; omega)
    · exact sd
  · unfold OwnR_i Inst.ok; dsimp only; refine spec_of_body (tys := tys) 2 Tryz.func119 (by kernel_rfl) rfl tys_ok rfl (Nat.le_of_ble_eq_true rfl) (fun _ _ h => (by cases h)) fun F hP hm hC hrd => ?_; conv => whnf
    refine lwp_seq fun K hK => ?_
    (refine lwp_region hC ⟨[], [], []⟩ (told0 _ _) rfl ?_ ?_; rotate_left 1)
    · refine gA ?_
      apply_assumption -exfalso -symm
      refine lwp_seq fun K hK => ?_
      (refine lwp_drawn hC (by rw [hP]; exact mixed) ⟨[(4, { b := some true }), (8, { b := some true }), (7, { b := some true })], [], []⟩ (told0 _ _) [0, 1, 0, 4, 0, 0, 32, 112, 0, 0, 512, 2032, 4095, 8191] 12 rfl ?_ ?_; rotate_left 1)
      · repeat first | refine lwp_seq fun K hK => ?_ | ((with_reducible refine gA ?_); apply_assumption -exfalso -symm) | refine gB ?_ | refine gC ?_ | refine gD ?_ | refine gE ?_ | refine gF rfl ?_ | refine gG rfl ?_ | refine gH ?_ | refine gI ?_ | refine gJ ?_ | refine gK ?_ | refine gL ?_ | refine lwp_region hC ⟨[], [], []⟩ (told0 _ _) rfl ⟨⟩ ?_
        (refine end_intro (by first | exact .inr rfl | exact .inl rfl) [(2, some 5), (3, some 7)] rfl ?_)
        simp only [All, cd_p, cp_p, cv_p]
        (repeat' refine And.intro ?_ ?_) <;> first | trivial | rfl
      · simp only [AllL, All, cd_p, cp_p, cv_p, InK]
        (repeat' refine And.intro ?_ ?_) <;> first | trivial | rfl | exact flC_one (x :: l) | exact spC_one [] | (simp only [List.length_cons, List.length_nil] at *; omega)
    · exact sd
  · unfold OwnR_i Inst.ok; dsimp only; refine spec_of_body (tys := tys) 2 Tryz.func119 (by kernel_rfl) rfl tys_ok rfl (Nat.le_of_ble_eq_true rfl) (fun _ _ h => (by cases h)) fun F hP hm hC hrd => ?_; conv => whnf
    refine lwp_seq fun K hK => ?_
    (refine lwp_region hC ⟨[], [], []⟩ (told0 _ _) rfl ?_ ?_; rotate_left 1)
    · refine gA ?_
      apply_assumption -exfalso -symm
      refine lwp_seq fun K hK => ?_
      (refine lwp_drawn hC (by rw [hP]; exact mixed) ⟨[(4, { b := some true }), (8, { b := some true }), (7, { b := some true }), (11, { b := some true })], [], []⟩ (told0 _ _) [0, 1, 0, 4, 0, 0, 32, 112, 0, 0, 512, 2032, 4095, 8191] 12 rfl ?_ ?_; rotate_left 1)
      · repeat first | refine lwp_seq fun K hK => ?_ | ((with_reducible refine gA ?_); apply_assumption -exfalso -symm) | refine gB ?_ | refine gC ?_ | refine gD ?_ | refine gE ?_ | refine gF rfl ?_ | refine gG rfl ?_ | refine gH ?_ | refine gI ?_ | refine gJ ?_ | refine gK ?_ | refine gL ?_ | refine lwp_region hC ⟨[], [], []⟩ (told0 _ _) rfl ⟨⟩ ?_
        (refine end_intro (by first | exact .inr rfl | exact .inl rfl) [(2, some 5), (3, some 7)] rfl ?_)
        simp only [All, cd_p, cp_p, cv_p]
        (repeat' refine And.intro ?_ ?_) <;> first | trivial | rfl
      · simp only [AllL, All, cd_p, cp_p, cv_p, InK]
        (repeat' refine And.intro ?_ ?_) <;> first | trivial | rfl | exact flC_one (x :: l) | exact spC_one (y :: hs) | (simp only [List.length_cons, List.length_nil] at *; omega)
    · exact sd

theorem cut_x16 (b : Nat) : cutW ((FloatKind.f32.format.mul 1098907648 b).getD 0) = cutW (x16 b) := by rw [mul_comm16]; rfl
def Cut_i (b : Nat) : Inst := { f := 155, hin := [], args := [fl b], hout := [], ret := i64 (cutW (x16 b)), σ := [] }
theorem Cut_s (b : Nat) (h : partS b = 0) : (Cut_i b).ok Tryz.prog := by
  obtain ⟨c1, c2⟩ := part_cut h
  unfold x16 at c2
  have e := cut_x16 b
  rw [← mul_comm16] at c1 c2
  unfold Cut_i Inst.ok; dsimp only; refine spec_of_body (tys := tys) 0 Tryz.func155 (by kernel_rfl) rfl tys_ok rfl (Nat.le_of_ble_eq_true rfl) (fun _ _ h => (by cases h)) fun F hP hm hC hrd => ?_; conv => whnf
  repeat first | refine lwp_seq fun K hK => ?_ | ((with_reducible refine gA ?_); apply_assumption -exfalso -symm) | refine gB ?_ | refine gC ?_ | refine gD ?_ | refine gE ?_ | refine gF rfl ?_ | refine gG rfl ?_ | refine gH ?_ | refine gI ?_ | refine gJ ?_ | refine gK ?_ | refine gL ?_ | refine lwp_region hC ⟨[], [], []⟩ (told0 _ _) rfl ⟨⟩ ?_
  (refine lwp_region hC ⟨[], [], []⟩ (told0 _ _) rfl ?_ ?_; rotate_left 1)
  · repeat first | refine lwp_seq fun K hK => ?_ | ((with_reducible refine gA ?_); apply_assumption -exfalso -symm) | refine gB ?_ | refine gC ?_ | refine gD ?_ | refine gE ?_ | refine gF rfl ?_ | refine gG rfl ?_ | refine gH ?_ | refine gI ?_ | refine gJ ?_ | refine gK ?_ | refine gL ?_ | refine lwp_region hC ⟨[], [], []⟩ (told0 _ _) rfl ⟨⟩ ?_
    (refine end_intro (by first | exact .inr rfl | exact .inl rfl) [] rfl ?_)
    exact ⟨e.symm, trivial⟩
  · exact ⟨⟨c2, trivial⟩, ⟨c1, trivial⟩, trivial⟩
def RCut_i (b : Nat) : Inst := { f := 68, hin := [], args := [fl b], hout := [], ret := i64 (cutW (x16 b)), σ := [] }
theorem RCut_s (b : Nat) (h : partS b = 0) : (RCut_i b).ok Tryz.prog := by
  obtain ⟨c1, c2⟩ := part_cut h
  unfold x16 at c2
  have e := cut_x16 b
  rw [← mul_comm16] at c1 c2
  unfold RCut_i Inst.ok; dsimp only; refine spec_of_body (tys := tys) 0 Tryz.func68 (by kernel_rfl) rfl tys_ok rfl (Nat.le_of_ble_eq_true rfl) (fun _ _ h => (by cases h)) fun F hP hm hC hrd => ?_; conv => whnf
  repeat first | refine lwp_seq fun K hK => ?_ | ((with_reducible refine gA ?_); apply_assumption -exfalso -symm) | refine gB ?_ | refine gC ?_ | refine gD ?_ | refine gE ?_ | refine gF rfl ?_ | refine gG rfl ?_ | refine gH ?_ | refine gI ?_ | refine gJ ?_ | refine gK ?_ | refine gL ?_ | refine lwp_region hC ⟨[], [], []⟩ (told0 _ _) rfl ⟨⟩ ?_
  (refine lwp_region hC ⟨[], [], []⟩ (told0 _ _) rfl ?_ ?_; rotate_left 1)
  · repeat first | refine lwp_seq fun K hK => ?_ | ((with_reducible refine gA ?_); apply_assumption -exfalso -symm) | refine gB ?_ | refine gC ?_ | refine gD ?_ | refine gE ?_ | refine gF rfl ?_ | refine gG rfl ?_ | refine gH ?_ | refine gI ?_ | refine gJ ?_ | refine gK ?_ | refine gL ?_ | refine lwp_region hC ⟨[], [], []⟩ (told0 _ _) rfl ⟨⟩ ?_
    (refine end_intro (by first | exact .inr rfl | exact .inl rfl) [] rfl ?_)
    exact ⟨e.symm, trivial⟩
  · exact ⟨⟨c2, trivial⟩, ⟨c1, trivial⟩, trivial⟩
/-- The integers of samples. -/
theorem partS_all {t : Rn} (h : runE t = 0) : ∀ b ∈ t.smp, partS b = 0 := by
  rw [runE_eq] at h
  by_cases h1 : headR t = 0
  · rw [if_neg (fun x => x h1)] at h
    by_cases h2 : bodyR t = 0
    · unfold bodyR at h2
      rw [firstS_eq] at h2
      have h3 := h2 _ List.mem_cons_self
      rw [firstS_eq] at h3
      exact fun b hb => h3 _ (List.mem_map.2 ⟨b, hb, rfl⟩)
    · rw [if_pos h2] at h; exact absurd h h2
  · rw [if_pos h1] at h; exact absurd h h1

end Go.Proofs.YtoopgdchiljmiaaGreatDoor

namespace Go.Proofs.YtoopgdchiljmiaaGreatDoor
open Go.RowKit Go.Sym

def rdV (p : Nat × Bool) : List Value := [.float .f32 p.1, .bool p.2]
def rdC (l : List (Nat × Bool)) : Cont := genL rdV (0, false) 2 l
theorem rdC_snoc (l : List (Nat × Bool)) (x : Nat × Bool) : (rdC (l ++ [x])).cells = (rdC l).cells ++ [.lit (.float .f32 x.1), .lit (.bool x.2)] := genL_snoc (f := rdV) (fun _ => rfl) l x
/-- The readings of a run of which the holes in a list are known, and a piece of a further one. -/
def readJ (l : List Nat) (hs : List (Int × Int)) (a b : Int) : List (Nat × Bool) := (List.range l.length).map fun (i : Nat) => if knownB hs i = true ∧ ¬ (a ≤ (i : Int) ∧ (i : Int) < b) then (l.getD i 0, true) else (0, false)
def readS (t : Rn) : List (Nat × Bool) := readJ t.smp t.holes 0 0
theorem readJ_len (l : List Nat) (hs : List (Int × Int)) (a b : Int) : (readJ l hs a b).length = l.length := by simp [readJ]
theorem readJ_at (l : List Nat) (hs : List (Int × Int)) (a b : Int) (i : Nat) (h : i < l.length) : (readJ l hs a b).getD i (0, false) = if knownB hs i = true ∧ ¬ (a ≤ (i : Int) ∧ (i : Int) < b) then (l.getD i 0, true) else (0, false) := by
  rw [List.getD_eq_getElem?_getD, List.getElem?_eq_getElem (by rw [readJ_len]; exact h)]
  simp [readJ]
theorem readJ_none (l : List Nat) : readJ l [] 0 0 = l.map fun b => (b, true) := by
  refine getD_ext (d := (0, false)) (by simp [readJ]) fun i hi => ?_
  rw [readJ_len] at hi
  rw [readJ_at _ _ _ _ _ hi, if_pos ⟨rfl, by omega⟩, map_at (fun b : Nat => (b, true)) 0 (0, false) l i hi]
theorem knownB_snoc (hs : List (Int × Int)) (h : Int × Int) (i : Int) : knownB (hs ++ [h]) i = true ↔ knownB hs i = true ∧ ¬ (h.1 ≤ i ∧ i < h.2) := by
  unfold knownB
  rw [List.any_append]
  cases hs.any _ <;> simp <;> omega
theorem readJ_hole (l : List Nat) (hs : List (Int × Int)) (h : Int × Int) : readJ l (hs ++ [h]) 0 0 = readJ l hs h.1 h.2 := by
  refine getD_ext (d := (0, false)) (by rw [readJ_len, readJ_len]) fun i hi => ?_
  rw [readJ_len] at hi
  rw [readJ_at _ _ _ _ _ hi, readJ_at _ _ _ _ _ hi]
  by_cases hk : knownB (hs ++ [h]) i = true
  · rw [if_pos ⟨hk, by omega⟩, if_pos ((knownB_snoc hs h i).1 hk)]
  · rw [if_neg (fun e => hk e.1), if_neg (fun e => hk ((knownB_snoc hs h i).2 e))]
theorem readJ_start (l : List Nat) (hs : List (Int × Int)) (a : Int) : readJ l hs a a = readJ l hs 0 0 := by
  refine getD_ext (d := (0, false)) (by rw [readJ_len, readJ_len]) fun i hi => ?_
  rw [readJ_len] at hi
  rw [readJ_at _ _ _ _ _ hi, readJ_at _ _ _ _ _ hi]
  by_cases hk : knownB hs i = true
  · rw [if_pos ⟨hk, by omega⟩, if_pos ⟨hk, by omega⟩]
  · rw [if_neg (fun e => hk e.1), if_neg (fun e => hk e.1)]
theorem readJ_step (l : List Nat) (hs : List (Int × Int)) (a : Int) (i : Nat) (e : Nat) (he : (e : Int) = a + i) (hl : e < l.length) : (rdC (readJ l hs a (a + (i + 1 : Nat)))).cells = (Cont.gen (readJ l hs a (a + i)).length 2 fun q => if q = e then lay ((fun q => rdV ((readJ l hs a (a + i)).getD q (0, false))) e) 0 [.float .f32 0, .bool false] else (fun q => rdV ((readJ l hs a (a + i)).getD q (0, false))) q).cells := by
  rw [show (rdC (readJ l hs a (a + (i + 1 : Nat)))).cells = (Cont.gen (readJ l hs a (a + (i + 1 : Nat))).length 2 fun q => rdV ((readJ l hs a (a + (i + 1 : Nat))).getD q (0, false))).cells from rfl, readJ_len, readJ_len]
  refine gen_congr fun q hq => ?_
  dsimp only
  rw [readJ_at _ _ _ _ q hq]
  by_cases h1 : q = e
  · rw [if_pos h1, if_neg (fun h => h.2 ⟨by omega, by omega⟩)]
    rfl
  · rw [if_neg h1, readJ_at _ _ _ _ q hq]
    by_cases h2 : knownB hs q = true ∧ ¬ (a ≤ (q : Int) ∧ (q : Int) < a + i)
    · rw [if_pos h2, if_pos ⟨h2.1, by have := h2.2; omega⟩]
    · rw [if_neg h2, if_neg (fun h => h2 ⟨h.1, by have := h.2; omega⟩)]

def Rd1_i (b : Nat) : Inst := { f := 183, hin := [], args := [fl b], hout := [], ret := .agg [fl b, bl true], σ := [] }
theorem Rd1_s (b : Nat) : (Rd1_i b).ok Tryz.prog := by
  unfold Rd1_i Inst.ok; dsimp only; refine spec_of_body (tys := tys) 0 Tryz.func183 (by kernel_rfl) rfl tys_ok rfl (Nat.le_of_ble_eq_true rfl) (fun _ _ h => (by cases h)) fun F hP hm hC hrd => ?_; conv => whnf
  repeat first | refine lwp_seq fun K hK => ?_ | ((with_reducible refine gA ?_); apply_assumption -exfalso -symm) | refine gB ?_ | refine gC ?_ | refine gD ?_ | refine gE ?_ | refine gF rfl ?_ | refine gG rfl ?_ | refine gH ?_ | refine gI ?_ | refine gJ ?_ | refine gK ?_ | refine gL ?_ | refine lwp_region hC ⟨[], [], []⟩ (told0 _ _) rfl ⟨⟩ ?_ | refine lwp_region hC ⟨[], [], []⟩ (told0 _ _) rfl (by exact sd) ?_
  (refine end_intro (by first | exact .inr rfl | exact .inl rfl) [] rfl ?_)
  exact sd
def RdM_i (l : List Nat) (σ : Ren) : Inst := { f := 182, hin := [(0, .ro l.length 1 (flC l))], args := [.sl 0 l.length, .fn 183 [] []], hout := [(1, .row 207 l.length 2 (rdC (readJ l [] 0 0)))], ret := .sl 1 l.length, σ := σ }
set_option maxRecDepth 20000 in
set_option maxHeartbeats 4000000 in
theorem RdM_s (l : List Nat) (σ : Ren) (hl : l.length ≤ 100000) : (RdM_i l σ).ok Tryz.prog := by
  have l1 := readJ_len l [] 0 0
  unfold RdM_i Inst.ok; dsimp only; refine spec_of_body (tys := tys) 1 Tryz.func182 (by kernel_rfl) rfl tys_ok rfl (Nat.le_of_ble_eq_true rfl) (fun _ _ h => (by cases h)) fun F hP hm hC hrd => ?_; conv => whnf
  repeat first | refine lwp_seq fun K hK => ?_ | ((with_reducible refine gA ?_); apply_assumption -exfalso -symm) | refine gB ?_ | refine gC ?_ | refine gD ?_ | refine gE ?_ | refine gF rfl ?_ | refine gG rfl ?_ | refine gH ?_ | refine gI ?_ | refine gJ ?_ | refine gK ?_ | refine gL ?_ | refine lwp_region hC ⟨[], [], []⟩ (told0 _ _) rfl ⟨⟩ ?_
  refine lwp_loop (fun k : Nat => ⟨[(10, i64 k), (9, i64 l.length), (8, .sl 0 l.length), (5, .sl 1 k), (1, .fn 183 [] [])], [(0, .ro l.length 1 (flC l)), (1, .row 207 k 2 (rdC ((readJ l [] 0 0).take k)))], 2⟩) (fun k => k ≤ l.length) (fun k => l.length - k) 0 ⟨?_, sub_intro hm [(0, some 0), (1, none)] rfl ?_⟩ ?_
  · exact Nat.zero_le _
  · exact sd
  rintro k hk
  have hkk : ((k : Int)).toNat = k := Int.toNat_natCast k
  repeat first | refine lwp_seq fun K hK => ?_ | ((with_reducible refine gA ?_); apply_assumption -exfalso -symm) | refine gB ?_ | refine gC ?_ | refine gD ?_ | refine gE ?_ | refine gF rfl ?_ | refine gG rfl ?_ | refine gH ?_ | refine gI ?_ | refine gJ ?_ | refine gK ?_ | refine gL ?_ | refine lwp_region hC ⟨[], [], []⟩ (told0 _ _) rfl ⟨⟩ ?_
  (refine lwp_cond hC rfl (by first | exact ⟨⟩ | exact sd) (fun hb => ?_) (fun hb => ?_) <;> (try simp only [decide_eq_true_eq, decide_eq_false_iff_not, Bool.not_eq_true', Bool.not_eq_false', ne_eq, Decidable.not_not] at hb))
  · have hk2 : k < l.length := by omega
    repeat first | refine lwp_seq fun K hK => ?_ | ((with_reducible refine gA ?_); apply_assumption -exfalso -symm) | refine gB ?_ | refine gC ?_ | refine gD ?_ | refine gE ?_ | refine gF rfl ?_ | refine gG rfl ?_ | refine gH ?_ | refine gI ?_ | refine gJ ?_ | refine gK ?_ | refine gL ?_ | refine lwp_region hC ⟨[], [], []⟩ (told0 _ _) rfl ⟨⟩ ?_ | refine lwp_region hC ⟨[], [], []⟩ (told0 _ _) rfl (by exact sd) ?_
    (refine lwp_region hC ⟨[], [], [(3, Rd1_i (l.getD k 0))]⟩ (told1 _ (by rw [hP]; exact (calls_cons (Rd1_s _) calls_nil))) rfl ?_ ?_; rotate_left 1)
    · repeat first | refine lwp_seq fun K hK => ?_ | ((with_reducible refine gA ?_); apply_assumption -exfalso -symm) | refine gB ?_ | refine gC ?_ | refine gD ?_ | refine gE ?_ | refine gF rfl ?_ | refine gG rfl ?_ | refine gH ?_ | refine gI ?_ | refine gJ ?_ | refine gK ?_ | refine gL ?_ | refine lwp_region hC ⟨[], [], []⟩ (told0 _ _) rfl ⟨⟩ ?_ | refine lwp_region hC ⟨[], [], []⟩ (told0 _ _) rfl (by exact sd) ?_
      refine gA ⟨k + 1, ?_, ?_, sub_intro hm [(0, some 0), (1, some 3)] rfl ?_⟩
      · omega
      · omega
      · have a1 := rdC_snoc ((readJ l [] 0 0).take k) ((readJ l [] 0 0).getD k (0, false))
        rw [← take_snoc _ _ _ (by omega), readJ_at _ _ _ _ _ hk2, if_pos ⟨rfl, by omega⟩] at a1
        have b1 : (rdC ((readJ l [] 0 0).take (k + 1))).cells = (catC (rdC ((readJ l [] 0 0).take k)) (Cont.exp [.lit (.float .f32 (l.getD k 0)), .lit (.bool true)])).cells := by
          rw [catC_cells, a1]; rfl
        clear a1
        exact sd
    · exact sd
  · obtain rfl : k = l.length := by omega
    rw [List.take_of_length_le (Nat.le_of_eq l1)]
    repeat first | refine lwp_seq fun K hK => ?_ | ((with_reducible refine gA ?_); apply_assumption -exfalso -symm) | refine gB ?_ | refine gC ?_ | refine gD ?_ | refine gE ?_ | refine gF rfl ?_ | refine gG rfl ?_ | refine gH ?_ | refine gI ?_ | refine gJ ?_ | refine gK ?_ | refine gL ?_ | refine lwp_region hC ⟨[], [], []⟩ (told0 _ _) rfl ⟨⟩ ?_ | refine lwp_region hC ⟨[], [], []⟩ (told0 _ _) rfl (by exact sd) ?_
    (refine end_intro (by first | exact .inr rfl | exact .inl rfl) [(1, some 1)] rfl ?_)
    exact sd

def Rdg_i (t : Rn) (σ : Ren) : Inst := { f := 117, hin := rnIn t, args := [rnA 0 1 t], hout := [(2, .row 207 t.smp.length 2 (rdC (readS t)))], ret := .sl 2 t.smp.length, σ := σ }
set_option maxRecDepth 20000 in
set_option maxHeartbeats 4000000 in
theorem Rdg_s (t : Rn) (σ : Ren) (hok : HolesOk t.smp.length t.holes) (h1 : t.smp.length ≤ 100000) (h2 : t.holes.length ≤ 100000) : (Rdg_i t σ).ok Tryz.prog := by
  unfold Rdg_i Inst.ok; dsimp only; refine spec_of_body (tys := tys) 2 Tryz.func117 (by kernel_rfl) rfl tys_ok rfl (Nat.le_of_ble_eq_true rfl) (fun _ _ h => (by cases h)) fun F hP hm hC hrd => ?_; conv => whnf
  repeat first | refine lwp_seq fun K hK => ?_ | ((with_reducible refine gA ?_); apply_assumption -exfalso -symm) | refine gB ?_ | refine gC ?_ | refine gD ?_ | refine gE ?_ | refine gF rfl ?_ | refine gG rfl ?_ | refine gH ?_ | refine gI ?_ | refine gJ ?_ | refine gK ?_ | refine gL ?_ | refine lwp_region hC ⟨[], [], []⟩ (told0 _ _) rfl ⟨⟩ ?_
  (refine lwp_region hC ⟨[], [], [(2, RdM_i t.smp [(0, some 0)])]⟩ (told1 _ (by rw [hP]; exact (calls_cons (RdM_s _ _ h1) calls_nil))) rfl ?_ ?_; rotate_left 1)
  · repeat first | refine lwp_seq fun K hK => ?_ | ((with_reducible refine gA ?_); apply_assumption -exfalso -symm) | refine gB ?_ | refine gC ?_ | refine gD ?_ | refine gE ?_ | refine gF rfl ?_ | refine gG rfl ?_ | refine gH ?_ | refine gI ?_ | refine gJ ?_ | refine gK ?_ | refine gL ?_ | refine lwp_region hC ⟨[], [], []⟩ (told0 _ _) rfl ⟨⟩ ?_
    refine lwp_loop (fun j : Nat => ⟨[(13, i64 j), (12, i64 t.holes.length), (11, .sl 1 t.holes.length), (3, .sl 3 t.smp.length), (1, .ptr 2 0 0 0)], [(3, .row 207 t.smp.length 2 (rdC (readJ t.smp (t.holes.take j) 0 0))), (2, .blk 72 [.lit (.string t.name), i64 t.first, .sl 0 t.smp.length, .sl 1 t.holes.length]), (0, .ro t.smp.length 1 (flC t.smp)), (1, .ro t.holes.length 2 (spC t.holes))], 4⟩) (fun j => j ≤ t.holes.length) (fun j => t.holes.length - j) 0 ⟨?_, sub_intro hm [(0, some 0), (1, some 1), (2, some 2), (3, some 3)] rfl ?_⟩ ?_
    · exact Nat.zero_le _
    · rw [List.take_zero]
      exact sd
    · rintro j hj
      have hjj : ((j : Int)).toNat = j := Int.toNat_natCast j
      repeat first | refine lwp_seq fun K hK => ?_ | ((with_reducible refine gA ?_); apply_assumption -exfalso -symm) | refine gB ?_ | refine gC ?_ | refine gD ?_ | refine gE ?_ | refine gF rfl ?_ | refine gG rfl ?_ | refine gH ?_ | refine gI ?_ | refine gJ ?_ | refine gK ?_ | refine gL ?_ | refine lwp_region hC ⟨[], [], []⟩ (told0 _ _) rfl ⟨⟩ ?_
      (refine lwp_cond hC rfl (by first | exact ⟨⟩ | exact sd) (fun hb => ?_) (fun hb => ?_) <;> (try simp only [decide_eq_true_eq, decide_eq_false_iff_not, Bool.not_eq_true', Bool.not_eq_false', ne_eq, Decidable.not_not] at hb))
      · have hj2 : j < t.holes.length := by omega
        have hh : 0 ≤ (t.holes.getD j (0, 0)).1 ∧ (t.holes.getD j (0, 0)).1 < (t.holes.getD j (0, 0)).2 ∧ (t.holes.getD j (0, 0)).2 ≤ t.smp.length := by
          rw [List.getD_eq_getElem?_getD, List.getElem?_eq_getElem hj2]
          exact hok _ (List.getElem_mem hj2)
        have htk : t.holes.take (j + 1) = t.holes.take j ++ [t.holes.getD j (0, 0)] := take_snoc _ _ _ hj2
        repeat first | refine lwp_seq fun K hK => ?_ | ((with_reducible refine gA ?_); apply_assumption -exfalso -symm) | refine gB ?_ | refine gC ?_ | refine gD ?_ | refine gE ?_ | refine gF rfl ?_ | refine gG rfl ?_ | refine gH ?_ | refine gI ?_ | refine gJ ?_ | refine gK ?_ | refine gL ?_ | refine lwp_region hC ⟨[], [], []⟩ (told0 _ _) rfl ⟨⟩ ?_ | refine lwp_region hC ⟨[], [], []⟩ (told0 _ _) rfl (by exact sd) ?_
        rw [hjj]
        generalize hh2 : t.holes.getD j (0, 0) = h at hh htk ⊢
        obtain ⟨a, b⟩ := h
        dsimp only at hh
        refine lwp_loop (fun i : Nat => ⟨[(22, i64 i), (21, i64 (b - a)), (5, .ptr 4 0 0 0), (13, i64 j), (12, i64 t.holes.length), (11, .sl 1 t.holes.length), (3, .sl 3 t.smp.length), (1, .ptr 2 0 0 0)], [(4, .blk 168 [i64 a, i64 b]), (3, .row 207 t.smp.length 2 (rdC (readJ t.smp (t.holes.take j) a (a + i)))), (2, .blk 72 [.lit (.string t.name), i64 t.first, .sl 0 t.smp.length, .sl 1 t.holes.length]), (0, .ro t.smp.length 1 (flC t.smp)), (1, .ro t.holes.length 2 (spC t.holes))], 5⟩) (fun i => a + (i : Int) ≤ b) (fun i => (b - a).toNat - i) 0 ⟨?_, sub_intro hm [(0, some 0), (1, some 1), (2, some 2), (3, some 3), (4, some 4)] rfl ?_⟩ ?_
        · show a + ((0 : Nat) : Int) ≤ b
          omega
        · rw [show a + ((0 : Nat) : Int) = a by omega, readJ_start]
          exact sd
        · clear hb
          rintro i hi
          have l1 := readJ_len t.smp (t.holes.take j) a (a + i)
          repeat first | refine lwp_seq fun K hK => ?_ | ((with_reducible refine gA ?_); apply_assumption -exfalso -symm) | refine gB ?_ | refine gC ?_ | refine gD ?_ | refine gE ?_ | refine gF rfl ?_ | refine gG rfl ?_ | refine gH ?_ | refine gI ?_ | refine gJ ?_ | refine gK ?_ | refine gL ?_ | refine lwp_region hC ⟨[], [], []⟩ (told0 _ _) rfl ⟨⟩ ?_ | refine lwp_region hC ⟨[], [], []⟩ (told0 _ _) rfl (by exact sd) ?_
          (refine lwp_cond hC rfl (by first | exact ⟨⟩ | exact sd) (fun hb => ?_) (fun hb => ?_) <;> (try simp only [decide_eq_true_eq, decide_eq_false_iff_not, Bool.not_eq_true', Bool.not_eq_false', ne_eq, Decidable.not_not] at hb))
          · have e4 : ((a + (i : Int)).toNat : Int) = a + i := by omega
            have hst := readJ_step t.smp (t.holes.take j) a i (a + i).toNat e4 (by omega)
            repeat first | refine lwp_seq fun K hK => ?_ | ((with_reducible refine gA ?_); apply_assumption -exfalso -symm) | refine gB ?_ | refine gC ?_ | refine gD ?_ | refine gE ?_ | refine gF rfl ?_ | refine gG rfl ?_ | refine gH ?_ | refine gI ?_ | refine gJ ?_ | refine gK ?_ | refine gL ?_ | refine lwp_region hC ⟨[], [], []⟩ (told0 _ _) rfl ⟨⟩ ?_
            (refine lwp_region hC ⟨[], [], []⟩ (told0 _ _) rfl ?_ ?_; rotate_left 1)
            · repeat first | refine lwp_seq fun K hK => ?_ | ((with_reducible refine gA ?_); apply_assumption -exfalso -symm) | refine gB ?_ | refine gC ?_ | refine gD ?_ | refine gE ?_ | refine gF rfl ?_ | refine gG rfl ?_ | refine gH ?_ | refine gI ?_ | refine gJ ?_ | refine gK ?_ | refine gL ?_ | refine lwp_region hC ⟨[], [], []⟩ (told0 _ _) rfl ⟨⟩ ?_ | refine lwp_region hC ⟨[], [], []⟩ (told0 _ _) rfl (by exact sd) ?_
              refine gA ⟨i + 1, ?_, ?_, sub_intro hm [(0, some 0), (1, some 1), (2, some 2), (3, some 3), (4, some 4)] rfl ?_⟩
              · omega
              · omega
              · exact sd
            · clear hst
              refine ⟨⟨rfl, (show (a + (i : Int)).toNat < (readJ t.smp (t.holes.take j) a (a + i)).length by rw [l1]; omega), trivial⟩, ?_⟩
              exact sd
          · have e4 : a + (i : Int) = b := by omega
            rw [e4]
            have hj1 : readJ t.smp (t.holes.take (j + 1)) 0 0 = readJ t.smp (t.holes.take j) a b := by rw [htk]; exact readJ_hole _ _ _
            repeat first | refine lwp_seq fun K hK => ?_ | ((with_reducible refine gA ?_); apply_assumption -exfalso -symm) | refine gB ?_ | refine gC ?_ | refine gD ?_ | refine gE ?_ | refine gF rfl ?_ | refine gG rfl ?_ | refine gH ?_ | refine gI ?_ | refine gJ ?_ | refine gK ?_ | refine gL ?_ | refine lwp_region hC ⟨[], [], []⟩ (told0 _ _) rfl ⟨⟩ ?_ | refine lwp_region hC ⟨[], [], []⟩ (told0 _ _) rfl (by exact sd) ?_
            refine gA ⟨j + 1, ?_, ?_, sub_intro hm [(0, some 0), (1, some 1), (2, some 2), (3, some 3)] rfl ?_⟩
            · omega
            · omega
            · rw [hj1]
              exact sd
      · obtain rfl : j = t.holes.length := by omega
        rw [List.take_length]
        repeat first | refine lwp_seq fun K hK => ?_ | ((with_reducible refine gA ?_); apply_assumption -exfalso -symm) | refine gB ?_ | refine gC ?_ | refine gD ?_ | refine gE ?_ | refine gF rfl ?_ | refine gG rfl ?_ | refine gH ?_ | refine gI ?_ | refine gJ ?_ | refine gK ?_ | refine gL ?_ | refine lwp_region hC ⟨[], [], []⟩ (told0 _ _) rfl ⟨⟩ ?_ | refine lwp_region hC ⟨[], [], []⟩ (told0 _ _) rfl (by exact sd) ?_
        (refine end_intro (by first | exact .inr rfl | exact .inl rfl) [(2, some 3)] rfl ?_)
        exact sd
  · exact sd

end Go.Proofs.YtoopgdchiljmiaaGreatDoor

namespace Go.Proofs.YtoopgdchiljmiaaGreatDoor
open Go.RowKit Go.Sym

/-- Spans with a further place, which is above all others. -/
def lngS (l : List (Int × Int)) (i : Int) : List (Int × Int) := if l.length ≠ 0 ∧ (l.getD (l.length - 1) (0, 0)).2 = i then l.set (l.length - 1) ((l.getD (l.length - 1) (0, 0)).1, i + 1) else l ++ [(i, i + 1)]
theorem lngS_len (l : List (Int × Int)) (i : Int) : (lngS l i).length ≤ l.length + 1 := by
  unfold lngS
  split
  · rw [List.length_set]; omega
  · rw [List.length_append]; simp
def Len_i (l : List (Int × Int)) (i : Int) (σ : Ren) : Inst := { f := 118, hin := [(0, .row 168 l.length 2 (spC l))], args := [.sl 0 l.length, i64 i], hout := [(1, .row 168 (lngS l i).length 2 (spC (lngS l i)))], ret := .sl 1 (lngS l i).length, σ := σ }
set_option maxRecDepth 20000 in
set_option maxHeartbeats 4000000 in
theorem Len_s (l : List (Int × Int)) (i : Int) (σ : Ren) (hl : l.length ≤ 100000) (hi : 0 ≤ i ∧ i ≤ 1000000000) : (Len_i l i σ).ok Tryz.prog := by
  have e1 : ((l.length : Int) - 1).toNat = l.length - 1 := by omega
  unfold Len_i Inst.ok; dsimp only; refine spec_of_body (tys := tys) 1 Tryz.func118 (by kernel_rfl) rfl tys_ok rfl (Nat.le_of_ble_eq_true rfl) (fun _ _ h => (by cases h)) fun F hP hm hC hrd => ?_; conv => whnf
  repeat first | refine lwp_seq fun K hK => ?_ | ((with_reducible refine gA ?_); apply_assumption -exfalso -symm) | refine gB ?_ | refine gC ?_ | refine gD ?_ | refine gE ?_ | refine gF rfl ?_ | refine gG rfl ?_ | refine gH ?_ | refine gI ?_ | refine gJ ?_ | refine gK ?_ | refine gL ?_ | refine lwp_region hC ⟨[], [], []⟩ (told0 _ _) rfl ⟨⟩ ?_
  (refine lwp_region hC ⟨[], [], []⟩ (told0 _ _) rfl ?_ ?_; rotate_left 1)
  · repeat first | refine lwp_seq fun K hK => ?_ | ((with_reducible refine gA ?_); apply_assumption -exfalso -symm) | refine gB ?_ | refine gC ?_ | refine gD ?_ | refine gE ?_ | refine gF rfl ?_ | refine gG rfl ?_ | refine gH ?_ | refine gI ?_ | refine gJ ?_ | refine gK ?_ | refine gL ?_ | refine lwp_region hC ⟨[], [], []⟩ (told0 _ _) rfl ⟨⟩ ?_ | refine lwp_region hC ⟨[], [], []⟩ (told0 _ _) rfl (by exact sd) ?_
    (refine lwp_cond hC rfl (by first | exact ⟨⟩ | exact sd) (fun hb => ?_) (fun hb => ?_) <;> (try simp only [decide_eq_true_eq, decide_eq_false_iff_not, Bool.not_eq_true', Bool.not_eq_false', ne_eq, Decidable.not_not] at hb))
    · have gg : ∀ x y : Bool, (bif x then y else false) = true → x = true ∧ y = true := by decide
      obtain ⟨g1, g2⟩ := gg _ _ hb
      have g1' := of_decide_eq_true g1
      have g2' := of_decide_eq_true g2
      rw [e1] at g2'
      have hE : lngS l i = l.set (l.length - 1) ((l.getD (l.length - 1) (0, 0)).1, i + 1) := by unfold lngS; rw [if_pos ⟨by omega, g2'⟩]
      have hcell := genL_set (f := fun p : Int × Int => [Value.int .i64 p.1, Value.int .i64 p.2]) (d := (0, 0)) (sz := 2) l (l.length - 1) 1 [.int .i64 (i + 1)] ((l.getD (l.length - 1) (0, 0)).1, i + 1) (by omega) rfl
      clear hb g1 g2 gg
      rw [hE, List.length_set]
      repeat first | refine lwp_seq fun K hK => ?_ | ((with_reducible refine gA ?_); apply_assumption -exfalso -symm) | refine gB ?_ | refine gC ?_ | refine gD ?_ | refine gE ?_ | refine gF rfl ?_ | refine gG rfl ?_ | refine gH ?_ | refine gI ?_ | refine gJ ?_ | refine gK ?_ | refine gL ?_ | refine lwp_region hC ⟨[], [], []⟩ (told0 _ _) rfl ⟨⟩ ?_
      (refine lwp_region hC ⟨[], [], []⟩ (told0 _ _) rfl ?_ ?_; rotate_left 1)
      · repeat first | refine lwp_seq fun K hK => ?_ | ((with_reducible refine gA ?_); apply_assumption -exfalso -symm) | refine gB ?_ | refine gC ?_ | refine gD ?_ | refine gE ?_ | refine gF rfl ?_ | refine gG rfl ?_ | refine gH ?_ | refine gI ?_ | refine gJ ?_ | refine gK ?_ | refine gL ?_ | refine lwp_region hC ⟨[], [], []⟩ (told0 _ _) rfl ⟨⟩ ?_ | refine lwp_region hC ⟨[], [], []⟩ (told0 _ _) rfl (by exact sd) ?_
        rw [e1, g2']
        rw [g2'] at hcell
        (refine end_intro (by first | exact .inr rfl | exact .inl rfl) [(1, some 0)] rfl ?_)
        exact sd
      · exact sd
    · have gg : ∀ x y : Bool, (bif x then y else false) = false → x = true → y = false := by decide
      have g1 := gg _ _ hb
      have hE : lngS l i = l ++ [(i, i + 1)] := by
        unfold lngS
        rw [if_neg]
        rintro ⟨a1, a2⟩
        have := g1 (decide_eq_true (by omega))
        rw [e1, decide_eq_true a2] at this
        cases this
      have hcell : (spC (l ++ [(i, i + 1)])).cells = (spC l).cells ++ [.lit (.int .i64 i), .lit (.int .i64 (i + 1))] := genL_snoc (f := fun p : Int × Int => [Value.int .i64 p.1, Value.int .i64 p.2]) (fun _ => rfl) l (i, i + 1)
      have hcell2 : (spC (l ++ [(i, i + 1)])).cells = (catC (spC l) (Cont.exp [i64 i, i64 (i + 1)])).cells := by rw [catC_cells, hcell]; rfl
      rw [hE, List.length_append]
      clear hb g1 gg hcell
      repeat first | refine lwp_seq fun K hK => ?_ | ((with_reducible refine gA ?_); apply_assumption -exfalso -symm) | refine gB ?_ | refine gC ?_ | refine gD ?_ | refine gE ?_ | refine gF rfl ?_ | refine gG rfl ?_ | refine gH ?_ | refine gI ?_ | refine gJ ?_ | refine gK ?_ | refine gL ?_ | refine lwp_region hC ⟨[], [], []⟩ (told0 _ _) rfl ⟨⟩ ?_ | refine lwp_region hC ⟨[], [], []⟩ (told0 _ _) rfl (by exact sd) ?_
      (refine end_intro (by first | exact .inr rfl | exact .inl rfl) [(1, some 2)] rfl ?_)
      exact sd
  · by_cases hx : (0 : Int) < l.length
    · rw [decide_eq_true hx]
      exact sd
    · rw [decide_eq_false hx]
      exact sd


/-- What a run has at a place: its integer, and whether it is known. -/
def lvB (t : Rn) (p : Int) : Bool := decide (0 ≤ p - t.first ∧ p - t.first < t.smp.length) && knownB t.holes (p - t.first)
def lvS (t : Rn) (p : Int) : Int := if lvB t p = true then cutW (x16 (t.smp.getD (p - t.first).toNat 0)) else 0

def Lv_i (t : Rn) (p : Int) (σ : Ren) : Inst := { f := 128, hin := rnIn t, args := [rnA 0 1 t, i64 p], hout := [], ret := .tup [i64 (lvS t p), bl (lvB t p)], σ := σ }
set_option maxRecDepth 20000 in
set_option maxHeartbeats 4000000 in
theorem Lv_s (t : Rn) (p : Int) (σ : Ren) (h1 : t.smp.length ≤ 100000) (h2 : t.holes.length ≤ 100000) (hf : 0 ≤ t.first ∧ t.first ≤ 100000000) (hp : -1000000 ≤ p ∧ p ≤ 200000000) (hs : ∀ b ∈ t.smp, partS b = 0) : (Lv_i t p σ).ok Tryz.prog := by
  unfold Lv_i Inst.ok; dsimp only; refine spec_of_body (tys := tys) 2 Tryz.func128 (by kernel_rfl) rfl tys_ok rfl (Nat.le_of_ble_eq_true rfl) (fun _ _ h => (by cases h)) fun F hP hm hC hrd => ?_; conv => whnf
  repeat first | refine lwp_seq fun K hK => ?_ | ((with_reducible refine gA ?_); apply_assumption -exfalso -symm) | refine gB ?_ | refine gC ?_ | refine gD ?_ | refine gE ?_ | refine gF rfl ?_ | refine gG rfl ?_ | refine gH ?_ | refine gI ?_ | refine gJ ?_ | refine gK ?_ | refine gL ?_ | refine lwp_region hC ⟨[], [], []⟩ (told0 _ _) rfl ⟨⟩ ?_
  (refine lwp_region hC ⟨[], [], []⟩ (told0 _ _) rfl ?_ ?_; rotate_left 1)
  · by_cases hin : 0 ≤ p - t.first ∧ p - t.first < t.smp.length
    · have hb0 : decide (0 ≤ p - t.first ∧ p - t.first < t.smp.length) = true := decide_eq_true hin
      have hlv : lvB t p = knownB t.holes (p - t.first) := by unfold lvB; rw [hb0]; rfl
      repeat first | refine lwp_seq fun K hK => ?_ | ((with_reducible refine gA ?_); apply_assumption -exfalso -symm) | refine gB ?_ | refine gC ?_ | refine gD ?_ | refine gE ?_ | refine gF rfl ?_ | refine gG rfl ?_ | refine gH ?_ | refine gI ?_ | refine gJ ?_ | refine gK ?_ | refine gL ?_ | refine lwp_region hC ⟨[], [], []⟩ (told0 _ _) rfl ⟨⟩ ?_
      (refine lwp_region hC ⟨[(2, { b := some false }), (9, { b := some false })], [], [(12, RIsKnown_i t (p - t.first) [(0, some 0), (1, some 1)])]⟩ (told1 _ (by rw [hP]; exact (calls_cons (RIsKnown_s _ _ _ h2) calls_nil))) rfl ?_ ?_; rotate_left 1)
      · repeat first | refine lwp_seq fun K hK => ?_ | ((with_reducible refine gA ?_); apply_assumption -exfalso -symm) | refine gB ?_ | refine gC ?_ | refine gD ?_ | refine gE ?_ | refine gF rfl ?_ | refine gG rfl ?_ | refine gH ?_ | refine gI ?_ | refine gJ ?_ | refine gK ?_ | refine gL ?_ | refine lwp_region hC ⟨[], [], []⟩ (told0 _ _) rfl ⟨⟩ ?_ | refine lwp_region hC ⟨[], [], []⟩ (told0 _ _) rfl (by exact sd) ?_
        (refine lwp_cond hC rfl (by first | exact ⟨⟩ | exact sd) (fun hb => ?_) (fun hb => ?_) <;> (try simp only [decide_eq_true_eq, decide_eq_false_iff_not, Bool.not_eq_true', Bool.not_eq_false', ne_eq, Decidable.not_not] at hb))
        · have hk : knownB t.holes (p - t.first) = false := by simpa using hb
          have hB : lvB t p = false := by rw [hlv]; exact hk
          have hS : lvS t p = 0 := by unfold lvS; rw [if_neg (by rw [hB]; decide)]
          rw [hS, hB]
          repeat first | refine lwp_seq fun K hK => ?_ | ((with_reducible refine gA ?_); apply_assumption -exfalso -symm) | refine gB ?_ | refine gC ?_ | refine gD ?_ | refine gE ?_ | refine gF rfl ?_ | refine gG rfl ?_ | refine gH ?_ | refine gI ?_ | refine gJ ?_ | refine gK ?_ | refine gL ?_ | refine lwp_region hC ⟨[], [], []⟩ (told0 _ _) rfl ⟨⟩ ?_ | refine lwp_region hC ⟨[], [], []⟩ (told0 _ _) rfl (by exact sd) ?_
          (refine end_intro (by first | exact .inr rfl | exact .inl rfl) [] rfl ?_)
          exact ⟨rfl, rfl, trivial⟩
        · have hk : knownB t.holes (p - t.first) = true := by simpa using hb
          have hB : lvB t p = true := by rw [hlv]; exact hk
          have hS : lvS t p = cutW (x16 (t.smp.getD (p - t.first).toNat 0)) := by unfold lvS; rw [if_pos hB]
          have hp0 : partS (t.smp.getD (p - t.first).toNat 0) = 0 := by
            have hlt : (p - t.first).toNat < t.smp.length := by omega
            rw [List.getD_eq_getElem?_getD, List.getElem?_eq_getElem hlt]
            exact hs _ (List.getElem_mem hlt)
          clear hb hk
          repeat first | refine lwp_seq fun K hK => ?_ | ((with_reducible refine gA ?_); apply_assumption -exfalso -symm) | refine gB ?_ | refine gC ?_ | refine gD ?_ | refine gE ?_ | refine gF rfl ?_ | refine gG rfl ?_ | refine gH ?_ | refine gI ?_ | refine gJ ?_ | refine gK ?_ | refine gL ?_ | refine lwp_region hC ⟨[], [], []⟩ (told0 _ _) rfl ⟨⟩ ?_
          (refine lwp_region hC ⟨[], [], [(5, RCut_i (t.smp.getD (p - t.first).toNat 0))]⟩ (told1 _ (by rw [hP]; exact (calls_cons (RCut_s _ hp0) calls_nil))) rfl ?_ ?_; rotate_left 1)
          · repeat first | refine lwp_seq fun K hK => ?_ | ((with_reducible refine gA ?_); apply_assumption -exfalso -symm) | refine gB ?_ | refine gC ?_ | refine gD ?_ | refine gE ?_ | refine gF rfl ?_ | refine gG rfl ?_ | refine gH ?_ | refine gI ?_ | refine gJ ?_ | refine gK ?_ | refine gL ?_ | refine lwp_region hC ⟨[], [], []⟩ (told0 _ _) rfl ⟨⟩ ?_ | refine lwp_region hC ⟨[], [], []⟩ (told0 _ _) rfl (by exact sd) ?_
            (refine end_intro (by first | exact .inr rfl | exact .inl rfl) [] rfl ?_)
            rw [hS, hB]
            exact ⟨rfl, rfl, trivial⟩
          · exact sd
      · have d1 : decide ((t.smp.length : Int) ≤ p - t.first) = false := decide_eq_false (by omega)
        have d2 : decide (p - t.first < 0) = false := decide_eq_false (by omega)
        rw [d1, d2]
        exact sd
    · have hB : lvB t p = false := by unfold lvB; rw [decide_eq_false hin]; rfl
      have hS : lvS t p = 0 := by unfold lvS; rw [if_neg (by rw [hB]; decide)]
      repeat first | refine lwp_seq fun K hK => ?_ | ((with_reducible refine gA ?_); apply_assumption -exfalso -symm) | refine gB ?_ | refine gC ?_ | refine gD ?_ | refine gE ?_ | refine gF rfl ?_ | refine gG rfl ?_ | refine gH ?_ | refine gI ?_ | refine gJ ?_ | refine gK ?_ | refine gL ?_ | refine lwp_region hC ⟨[], [], []⟩ (told0 _ _) rfl ⟨⟩ ?_
      by_cases hneg : p - t.first < 0
      · have d1 : decide (p - t.first < 0) = true := decide_eq_true hneg
        have d2 : True := trivial
        (refine lwp_region hC ⟨[(2, { b := some true }), (9, { b := some true }), (10, { g := some false }), (11, { g := some false }), (12, { g := some false }), (13, { g := some false })], [], []⟩ (told0 _ _) rfl ?_ ?_; rotate_left 1)
        · repeat first | refine lwp_seq fun K hK => ?_ | ((with_reducible refine gA ?_); apply_assumption -exfalso -symm) | refine gB ?_ | refine gC ?_ | refine gD ?_ | refine gE ?_ | refine gF rfl ?_ | refine gG rfl ?_ | refine gH ?_ | refine gI ?_ | refine gJ ?_ | refine gK ?_ | refine gL ?_ | refine lwp_region hC ⟨[], [], []⟩ (told0 _ _) rfl ⟨⟩ ?_ | refine lwp_region hC ⟨[], [], []⟩ (told0 _ _) rfl (by exact sd) ?_
          (refine lwp_cond hC rfl (by first | exact ⟨⟩ | exact sd) (fun hb => ?_) (fun hb => ?_) <;> (try simp only [decide_eq_true_eq, decide_eq_false_iff_not, Bool.not_eq_true', Bool.not_eq_false', ne_eq, Decidable.not_not] at hb))
          · rw [hS, hB]
            repeat first | refine lwp_seq fun K hK => ?_ | ((with_reducible refine gA ?_); apply_assumption -exfalso -symm) | refine gB ?_ | refine gC ?_ | refine gD ?_ | refine gE ?_ | refine gF rfl ?_ | refine gG rfl ?_ | refine gH ?_ | refine gI ?_ | refine gJ ?_ | refine gK ?_ | refine gL ?_ | refine lwp_region hC ⟨[], [], []⟩ (told0 _ _) rfl ⟨⟩ ?_ | refine lwp_region hC ⟨[], [], []⟩ (told0 _ _) rfl (by exact sd) ?_
            (refine end_intro (by first | exact .inr rfl | exact .inl rfl) [] rfl ?_)
            exact ⟨rfl, rfl, trivial⟩
          · exact absurd hb (by decide)
        · first
          | (rw [d1]; exact sd)
          | (rw [d1, d2]; exact sd)
      · have d2 : decide (p - t.first < 0) = false := decide_eq_false hneg
        have d1 : decide ((t.smp.length : Int) ≤ p - t.first) = true := decide_eq_true (by omega)
        (refine lwp_region hC ⟨[(2, { b := some false }), (9, { b := some true }), (10, { g := some false }), (11, { g := some false }), (12, { g := some false }), (13, { g := some false })], [], []⟩ (told0 _ _) rfl ?_ ?_; rotate_left 1)
        · repeat first | refine lwp_seq fun K hK => ?_ | ((with_reducible refine gA ?_); apply_assumption -exfalso -symm) | refine gB ?_ | refine gC ?_ | refine gD ?_ | refine gE ?_ | refine gF rfl ?_ | refine gG rfl ?_ | refine gH ?_ | refine gI ?_ | refine gJ ?_ | refine gK ?_ | refine gL ?_ | refine lwp_region hC ⟨[], [], []⟩ (told0 _ _) rfl ⟨⟩ ?_ | refine lwp_region hC ⟨[], [], []⟩ (told0 _ _) rfl (by exact sd) ?_
          (refine lwp_cond hC rfl (by first | exact ⟨⟩ | exact sd) (fun hb => ?_) (fun hb => ?_) <;> (try simp only [decide_eq_true_eq, decide_eq_false_iff_not, Bool.not_eq_true', Bool.not_eq_false', ne_eq, Decidable.not_not] at hb))
          · rw [hS, hB]
            repeat first | refine lwp_seq fun K hK => ?_ | ((with_reducible refine gA ?_); apply_assumption -exfalso -symm) | refine gB ?_ | refine gC ?_ | refine gD ?_ | refine gE ?_ | refine gF rfl ?_ | refine gG rfl ?_ | refine gH ?_ | refine gI ?_ | refine gJ ?_ | refine gK ?_ | refine gL ?_ | refine lwp_region hC ⟨[], [], []⟩ (told0 _ _) rfl ⟨⟩ ?_ | refine lwp_region hC ⟨[], [], []⟩ (told0 _ _) rfl (by exact sd) ?_
            (refine end_intro (by first | exact .inr rfl | exact .inl rfl) [] rfl ?_)
            exact ⟨rfl, rfl, trivial⟩
          · exact absurd hb (by decide)
        · first
          | (rw [d1]; exact sd)
          | (rw [d1, d2]; exact sd)
  · exact sd

end Go.Proofs.YtoopgdchiljmiaaGreatDoor

namespace Go.Proofs.YtoopgdchiljmiaaGreatDoor
open Go.RowKit Go.Sym

theorem zcut_half (neg : Bool) (n d : Nat) (h : 1 ≤ d) : Ieee.Toward.cut .zero neg n d ≤ n / 2 := by
  unfold Ieee.Toward.cut
  simp only [Bool.toNat_false, Nat.add_zero, Nat.one_shiftLeft]
  have h1 : 2 ^ 1 ≤ 2 ^ min d (n.log2 + 2) := Nat.pow_le_pow_right (by decide) (by omega)
  exact Nat.div_le_div_left h1 (by decide)
theorem cut_small {b : Nat} {s : Bool} {m : Nat} {p : Int} (h : Ieee.Format.read FloatKind.f32.format b = .number s m p) (h1 : m < 16777216) (h2 : p ≤ -1) : -8388608 < (fltToInt .f32 b .i64).getD 0 ∧ (fltToInt .f32 b .i64).getD 0 < 8388608 := by
  unfold fltToInt FloatKind.decode
  rw [h]
  have e : p.toNat = 0 := by omega
  simp only [Ieee.Datum.toInt, Ieee.Datum.integral, e, Nat.shiftLeft_zero]
  have k := zcut_half s m (-p).toNat (by omega)
  have k2 := sgn_le s (Ieee.Toward.cut .zero s m (-p).toNat) 0
  rw [Nat.shiftLeft_zero] at k2
  have a1 : IntKind.i64.min = -9223372036854775808 := by decide
  have a2 : IntKind.i64.max = 9223372036854775807 := by decide
  rw [if_pos (by rw [a1, a2]; omega)]
  simp only [Option.getD_some]
  omega
theorem place_small {b : Nat} {s : Bool} {m : Nat} {p : Int} (e : Ieee.Format.read FloatKind.f32.format b = .number s m p) (h1 : (FloatKind.f32.format.order b (FloatKind.f32.nearest (-1024)) == some .lt) = false) (h2 : (FloatKind.f32.format.order b (FloatKind.f32.nearest 1024) == some .gt) = false) : p ≤ -13 := by
  obtain ⟨a1, a2, a3, a4⟩ := read_shape e
  unfold Ieee.Format.order at h1 h2
  rw [e, read_m1024] at h1
  rw [e, read_1024] at h2
  simp only [Ieee.Datum.order] at h1 h2
  refine Int.not_lt.1 fun hlt => ?_
  have hm := a4 (by omega)
  have hb : min p (-13) = -13 := by omega
  rw [hb] at h1 h2
  have hu : ((-13 : Int) - -13).toNat = 0 := by decide
  rw [hu] at h1 h2
  obtain ⟨u, hu2⟩ : ∃ u : Nat, (p - -13).toNat = u + 1 := ⟨(p - -13).toNat - 1, by omega⟩
  rw [hu2] at h1 h2
  have hg : 8388608 < m <<< (u + 1) := by
    rw [Nat.shiftLeft_eq]
    have : 2 ≤ 2 ^ (u + 1) := by
      have := Nat.two_pow_pos u
      rw [Nat.pow_succ]; omega
    have := Nat.mul_le_mul hm this
    omega
  have hz : 8388608 <<< 0 = 8388608 := by decide
  cases s with
  | false =>
    rw [beq_eq_false_iff_ne] at h2
    refine h2 ?_
    rw [Int.compare_eq_gt.2]
    simp only [Ieee.signed, Bool.false_eq_true, if_false, hz]
    omega
  | true =>
    rw [beq_eq_false_iff_ne] at h1
    refine h1 ?_
    rw [Int.compare_eq_lt.2]
    simp only [Ieee.signed, if_true, hz]
    omega
theorem times16b {b : Nat} (h : fin b = true) (h1 : (FloatKind.f32.format.order b (FloatKind.f32.nearest (-1024)) == some .lt) = false) (h2 : (FloatKind.f32.format.order b (FloatKind.f32.nearest 1024) == some .gt) = false) :
    ∃ r, FloatKind.f32.format.mul b 1098907648 = some r ∧ (-8388608 < (fltToInt .f32 r .i64).getD 0 ∧ (fltToInt .f32 r .i64).getD 0 < 8388608) := by
  obtain ⟨s, m, p, e⟩ := fin_iff.1 h
  obtain ⟨a1, a2, a3, a4⟩ := read_shape e
  have hp := place_small e h1 h2
  unfold Ieee.Format.mul
  rw [e, read_16]
  simp only [Ieee.Datum.product, Option.map_some, Ieee.Format.write]
  refine ⟨_, rfl, ?_⟩
  by_cases h0 : m * 8388608 = 0
  · rw [h0]
    have : Ieee.Format.nearest FloatKind.f32.format (s ^^ false) 0 (p + -19) = Ieee.Format.word FloatKind.f32.format (s ^^ false) 0 := rfl
    rw [this]
    obtain ⟨m', p', e', b1, b2⟩ := read_rung (s ^^ false) (r := 0) (by omega)
    exact cut_small e' b1 b2
  · have hl : (m * 8388608).log2 ≤ 46 := by
      have := (Nat.log2_lt (n := m * 8388608) (k := 47) h0).2 (by omega)
      omega
    obtain ⟨r, hr, er⟩ := nearest_rung (s ^^ false) (m * 8388608) (p + -19) h0 (by omega)
    rw [er]
    obtain ⟨m', p', e', b1, b2⟩ := read_rung (s ^^ false) hr
    exact cut_small e' b1 b2
theorem part_small {b : Nat} (h : partS b = 0) : -8388608 < cutW (x16 b) ∧ cutW (x16 b) < 8388608 := by
  unfold partS at h
  split at h
  · cases h
  · rename_i hf
    split at h
    · cases h
    · rename_i hr
      have hf : fin b = true := by cases e : fin b <;> simp_all
      simp only [Bool.or_eq_true, not_or, Bool.not_eq_true] at hr
      obtain ⟨r, h1, h2⟩ := times16b hf hr.1 hr.2
      unfold x16 cutW
      rw [h1]
      exact h2
theorem lv_small {t : Rn} (h : ∀ b ∈ t.smp, partS b = 0) (p : Int) : -8388608 < lvS t p ∧ lvS t p < 8388608 := by
  unfold lvS
  split
  · rename_i hb
    unfold lvB at hb
    simp only [Bool.and_eq_true, decide_eq_true_eq] at hb
    have hlt : (p - t.first).toNat < t.smp.length := by omega
    refine part_small ?_
    rw [List.getD_eq_getElem?_getD, List.getElem?_eq_getElem hlt]
    exact h _ (List.getElem_mem hlt)
  · omega

/-- A valid run's numbers. -/
structure VR (t : Rn) : Prop where
  f : 0 ≤ t.first ∧ t.first ≤ 100000000
  n : t.smp.length ≤ 4096
  h : t.holes.length ≤ 100000
  p : ∀ b ∈ t.smp, partS b = 0
  ok : HolesOk t.smp.length t.holes

end Go.Proofs.YtoopgdchiljmiaaGreatDoor

namespace Go.Proofs.YtoopgdchiljmiaaGreatDoor
open Go.RowKit Go.Sym

theorem vr_of {t : Rn} (h : runE t = 0) (hl : t.holes.length ≤ 100000) : VR t ∧ t.first + (t.smp.length : Int) ≤ 100000000 := by
  have hp := partS_all h
  rw [runE_eq] at h
  split at h
  · rename_i hx; exact absurd h hx
  · rename_i h1
    split at h
    · rename_i hx; exact absurd h hx
    · rename_i h2
      have h1 : headR t = 0 := Classical.byContradiction h1
      have h2 : bodyR t = 0 := Classical.byContradiction h2
      unfold headR at h1
      unfold bodyR at h2
      rw [firstS_cons, firstS_cons, firstS_cons, withinS_zero, whenS_zero (by decide), whenS_zero (by decide)] at h1
      rw [firstS_cons, firstS_cons, whenS_zero (by decide)] at h2
      have a1 := of_decide_eq_false h1.2.2.1
      have a2 := of_decide_eq_false h2.2.1
      have h3 : holesS t.smp.length (-1) t.holes = 0 := by
        unfold holeR at h
        split at h
        · rename_i hx; exact absurd h hx
        · rename_i hx; exact Classical.byContradiction hx
      exact ⟨⟨h1.2.1, by omega, hl, hp, holesS_ok _ _ _ h3⟩, by omega⟩
theorem readS_len (t : Rn) : (readS t).length = t.smp.length := readJ_len _ _ _ _
theorem readS_known {t : Rn} {i : Nat} (h : i < t.smp.length) : ((readS t).getD i (0, false)).2 = knownB t.holes i := by
  unfold readS
  rw [readJ_at _ _ _ _ _ h]
  cases hk : knownB t.holes i with
  | true => rw [if_pos ⟨rfl, by omega⟩]
  | false => rw [if_neg (fun e => by cases e.1)]
theorem readS_smp {t : Rn} {i : Nat} (h : i < t.smp.length) (hk : knownB t.holes i = true) : ((readS t).getD i (0, false)).1 = t.smp.getD i 0 := by
  unfold readS
  rw [readJ_at _ _ _ _ _ h, if_pos ⟨hk, by omega⟩]
theorem lvB_in {t : Rn} {p : Int} {i : Nat} (h : i < t.smp.length) (e : p - t.first = i) : lvB t p = knownB t.holes i := by
  unfold lvB
  rw [e, decide_eq_true ⟨by omega, by omega⟩]
  rfl
theorem lvS_in {t : Rn} {p : Int} {i : Nat} (h : i < t.smp.length) (e : p - t.first = i) (hk : knownB t.holes i = true) : lvS t p = cutW (x16 (t.smp.getD i 0)) := by
  unfold lvS
  rw [lvB_in h e, if_pos hk, e, Int.toNat_natCast]
theorem lvB_out {t : Rn} {p : Int} (h : ¬ (0 ≤ p - t.first ∧ p - t.first < t.smp.length)) : lvB t p = false := by
  unfold lvB
  rw [decide_eq_false h]
  rfl
theorem mem_getD {l : List Nat} {i : Nat} (h : i < l.length) : l.getD i 0 ∈ l := by
  rw [List.getD_eq_getElem?_getD, List.getElem?_eq_getElem h]
  exact List.getElem_mem h
def twoIn (a b : Rn) : List (Nat × Chunk) := [(0, .ro a.smp.length 1 (flC a.smp)), (1, .ro a.holes.length 2 (spC a.holes)), (2, .ro b.smp.length 1 (flC b.smp)), (3, .ro b.holes.length 2 (spC b.holes))]

end Go.Proofs.YtoopgdchiljmiaaGreatDoor
