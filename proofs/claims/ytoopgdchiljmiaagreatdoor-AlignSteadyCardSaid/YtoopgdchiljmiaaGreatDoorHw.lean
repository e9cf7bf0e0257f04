/- Runs of their own; spans and runs compared. -/
import Derived.Test.YtoopgdchiljmiaaGreatDoorHm
import Derived.Test.YtoopgdchiljmiaaGreatDoorSymP
set_option linter.unusedVariables false
set_option linter.unusedSimpArgs false
namespace Go.Proofs.YtoopgdchiljmiaaGreatDoor
open Go.RowKit Go.Sym

def Told_i (t : Rn) (σ : Ren) : Inst := { f := 66, hin := rnIn t, args := [rnA 0 1 t], hout := [], ret := rnA 0 1 t, σ := σ }
theorem Told_s (t : Rn) (σ : Ren) : (Told_i t σ).ok Tryz.prog := by
  unfold Told_i Inst.ok; dsimp only; refine spec_of_body (tys := tys) 2 Tryz.func66 (by kernel_rfl) rfl tys_ok rfl (Nat.le_of_ble_eq_true rfl) (fun _ _ h => (by cases h)) fun F hP hm hC hrd => ?_; conv => whnf
  repeat first | refine lwp_seq fun K hK => ?_ | ((with_reducible refine gA ?_); apply_assumption -exfalso -symm) | refine gB ?_ | refine gC ?_ | refine gD ?_ | refine gE ?_ | refine gF rfl ?_ | refine gG rfl ?_ | refine gH ?_ | refine gI ?_ | refine gJ ?_ | refine gK ?_ | refine gL ?_ | refine lwp_region hC ⟨[], [], []⟩ (told0 _ _) rfl ⟨⟩ ?_ | refine lwp_region hC ⟨[], [], []⟩ (told0 _ _) rfl (by exact sd) ?_
  (refine end_intro (by first | exact .inr rfl | exact .inl rfl) [(0, some 0), (1, some 1)] rfl ?_)
  exact ⟨rfl, rfl, rfl, rfl, trivial⟩
def LRun_i (t : Rn) (σ : Ren) : Inst := { f := 41, hin := rnIn t, args := [rnA 0 1 t], hout := rnOw 2 t, ret := rnA 2 3 t, σ := σ }
theorem LRun_s (t : Rn) (σ : Ren) (h1 : t.smp.length ≤ 1000000) (h2 : t.holes.length ≤ 1000000) : (LRun_i t σ).ok Tryz.prog := by
  obtain ⟨nm, f, l, hs⟩ := t
  dsimp only at h1 h2
  rcases l with _ | ⟨x, l⟩ <;> rcases hs with _ | ⟨y, hs⟩
  · unfold LRun_i Inst.ok; dsimp only; refine spec_of_body (tys := tys) 2 Tryz.func41 (by kernel_rfl) rfl tys_ok rfl (Nat.le_of_ble_eq_true rfl) (fun _ _ h => (by cases h)) fun F hP hm hC hrd => ?_; conv => whnf
    repeat first | refine lwp_seq fun K hK => ?_ | ((with_reducible refine gA ?_); apply_assumption -exfalso -symm) | refine gB ?_ | refine gC ?_ | refine gD ?_ | refine gE ?_ | refine gF rfl ?_ | refine gG rfl ?_ | refine gH ?_ | refine gI ?_ | refine gJ ?_ | refine gK ?_ | refine gL ?_ | refine lwp_region hC ⟨[], [], []⟩ (told0 _ _) rfl ⟨⟩ ?_ | refine lwp_region hC ⟨[], [], []⟩ (told0 _ _) rfl (by exact sd) ?_
    (refine lwp_region hC ⟨[], [], [(1, OwnR_i ⟨nm, f, [], []⟩ [(0, some 0), (1, some 1)])]⟩ (told1 _ (by rw [hP]; exact (calls_cons (OwnR_s _ _ h1 h2) calls_nil))) rfl ?_ ?_; rotate_left 1)
    · repeat first | refine lwp_seq fun K hK => ?_ | ((with_reducible refine gA ?_); apply_assumption -exfalso -symm) | refine gB ?_ | refine gC ?_ | refine gD ?_ | refine gE ?_ | refine gF rfl ?_ | refine gG rfl ?_ | refine gH ?_ | refine gI ?_ | refine gJ ?_ | refine gK ?_ | refine gL ?_ | refine lwp_region hC ⟨[], [], []⟩ (told0 _ _) rfl ⟨⟩ ?_ | refine lwp_region hC ⟨[], [], []⟩ (told0 _ _) rfl (by exact sd) ?_
      (refine end_intro (by first | exact .inr rfl | exact .inl rfl) [(2, some 4), (3, some 5)] rfl ?_)
      simp only [All, cd_p, cp_p, cv_p]
      (repeat' refine And.intro ?_ ?_) <;> first | trivial | rfl
    · exact sd
  · unfold LRun_i Inst.ok; dsimp only; refine spec_of_body (tys := tys) 2 Tryz.func41 (by kernel_rfl) rfl tys_ok rfl (Nat.le_of_ble_eq_true rfl) (fun _ _ h => (by cases h)) fun F hP hm hC hrd => ?_; conv => whnf
    repeat first | refine lwp_seq fun K hK => ?_ | ((with_reducible refine gA ?_); apply_assumption -exfalso -symm) | refine gB ?_ | refine gC ?_ | refine gD ?_ | refine gE ?_ | refine gF rfl ?_ | refine gG rfl ?_ | refine gH ?_ | refine gI ?_ | refine gJ ?_ | refine gK ?_ | refine gL ?_ | refine lwp_region hC ⟨[], [], []⟩ (told0 _ _) rfl ⟨⟩ ?_ | refine lwp_region hC ⟨[], [], []⟩ (told0 _ _) rfl (by exact sd) ?_
    (refine lwp_region hC ⟨[], [], [(1, OwnR_i ⟨nm, f, [], (y :: hs)⟩ [(0, some 0), (1, some 1)])]⟩ (told1 _ (by rw [hP]; exact (calls_cons (OwnR_s _ _ h1 h2) calls_nil))) rfl ?_ ?_; rotate_left 1)
    · repeat first | refine lwp_seq fun K hK => ?_ | ((with_reducible refine gA ?_); apply_assumption -exfalso -symm) | refine gB ?_ | refine gC ?_ | refine gD ?_ | refine gE ?_ | refine gF rfl ?_ | refine gG rfl ?_ | refine gH ?_ | refine gI ?_ | refine gJ ?_ | refine gK ?_ | refine gL ?_ | refine lwp_region hC ⟨[], [], []⟩ (told0 _ _) rfl ⟨⟩ ?_ | refine lwp_region hC ⟨[], [], []⟩ (told0 _ _) rfl (by exact sd) ?_
      (refine end_intro (by first | exact .inr rfl | exact .inl rfl) [(2, some 4), (3, some 5)] rfl ?_)
      simp only [All, cd_p, cp_p, cv_p]
      (repeat' refine And.intro ?_ ?_) <;> first | trivial | rfl
    · exact sd
  · unfold LRun_i Inst.ok; dsimp only; refine spec_of_body (tys := tys) 2 Tryz.func41 (by kernel_rfl) rfl tys_ok rfl (Nat.le_of_ble_eq_true rfl) (fun _ _ h => (by cases h)) fun F hP hm hC hrd => ?_; conv => whnf
    repeat first | refine lwp_seq fun K hK => ?_ | ((with_reducible refine gA ?_); apply_assumption -exfalso -symm) | refine gB ?_ | refine gC ?_ | refine gD ?_ | refine gE ?_ | refine gF rfl ?_ | refine gG rfl ?_ | refine gH ?_ | refine gI ?_ | refine gJ ?_ | refine gK ?_ | refine gL ?_ | refine lwp_region hC ⟨[], [], []⟩ (told0 _ _) rfl ⟨⟩ ?_ | refine lwp_region hC ⟨[], [], []⟩ (told0 _ _) rfl (by exact sd) ?_
    (refine lwp_region hC ⟨[], [], [(1, OwnR_i ⟨nm, f, (x :: l), []⟩ [(0, some 0), (1, some 1)])]⟩ (told1 _ (by rw [hP]; exact (calls_cons (OwnR_s _ _ h1 h2) calls_nil))) rfl ?_ ?_; rotate_left 1)
    · repeat first | refine lwp_seq fun K hK => ?_ | ((with_reducible refine gA ?_); apply_assumption -exfalso -symm) | refine gB ?_ | refine gC ?_ | refine gD ?_ | refine gE ?_ | refine gF rfl ?_ | refine gG rfl ?_ | refine gH ?_ | refine gI ?_ | refine gJ ?_ | refine gK ?_ | refine gL ?_ | refine lwp_region hC ⟨[], [], []⟩ (told0 _ _) rfl ⟨⟩ ?_ | refine lwp_region hC ⟨[], [], []⟩ (told0 _ _) rfl (by exact sd) ?_
      (refine end_intro (by first | exact .inr rfl | exact .inl rfl) [(2, some 4), (3, some 5)] rfl ?_)
      simp only [All, cd_p, cp_p, cv_p]
      (repeat' refine And.intro ?_ ?_) <;> first | trivial | rfl
    · exact sd
  · unfold LRun_i Inst.ok; dsimp only; refine spec_of_body (tys := tys) 2 Tryz.func41 (by kernel_rfl) rfl tys_ok rfl (Nat.le_of_ble_eq_true rfl) (fun _ _ h => (by cases h)) fun F hP hm hC hrd => ?_; conv => whnf
    repeat first | refine lwp_seq fun K hK => ?_ | ((with_reducible refine gA ?_); apply_assumption -exfalso -symm) | refine gB ?_ | refine gC ?_ | refine gD ?_ | refine gE ?_ | refine gF rfl ?_ | refine gG rfl ?_ | refine gH ?_ | refine gI ?_ | refine gJ ?_ | refine gK ?_ | refine gL ?_ | refine lwp_region hC ⟨[], [], []⟩ (told0 _ _) rfl ⟨⟩ ?_ | refine lwp_region hC ⟨[], [], []⟩ (told0 _ _) rfl (by exact sd) ?_
    (refine lwp_region hC ⟨[], [], [(1, OwnR_i ⟨nm, f, (x :: l), (y :: hs)⟩ [(0, some 0), (1, some 1)])]⟩ (told1 _ (by rw [hP]; exact (calls_cons (OwnR_s _ _ h1 h2) calls_nil))) rfl ?_ ?_; rotate_left 1)
    · repeat first | refine lwp_seq fun K hK => ?_ | ((with_reducible refine gA ?_); apply_assumption -exfalso -symm) | refine gB ?_ | refine gC ?_ | refine gD ?_ | refine gE ?_ | refine gF rfl ?_ | refine gG rfl ?_ | refine gH ?_ | refine gI ?_ | refine gJ ?_ | refine gK ?_ | refine gL ?_ | refine lwp_region hC ⟨[], [], []⟩ (told0 _ _) rfl ⟨⟩ ?_ | refine lwp_region hC ⟨[], [], []⟩ (told0 _ _) rfl (by exact sd) ?_
      (refine end_intro (by first | exact .inr rfl | exact .inl rfl) [(2, some 4), (3, some 5)] rfl ?_)
      simp only [All, cd_p, cp_p, cv_p]
      (repeat' refine And.intro ?_ ?_) <;> first | trivial | rfl
    · exact sd
def shortR (t : Rn) : Bool := decide ((t.name.size : Int) ≤ 40) && (decide ((t.smp.length : Int) ≤ 40) || decide ((t.smp.length : Int) = 4097)) && decide ((t.holes.length : Int) ≤ 12)
theorem shortR_ok {t : Rn} (h : shortR t = true) : t.name.size ≤ 40 ∧ t.smp.length ≤ 4097 ∧ t.holes.length ≤ 12 := by
  unfold shortR at h
  simp only [Bool.and_eq_true, Bool.or_eq_true, decide_eq_true_eq] at h
  omega
theorem short_smp {t : Rn} (h : shortR t = true) (h2 : t.smp.length ≤ 4096) : t.smp.length ≤ 40 := by
  unfold shortR at h
  simp only [Bool.and_eq_true, Bool.or_eq_true, decide_eq_true_eq] at h
  omega
def ShortL_i (l : List Nat) (σ : Ren) : Inst := { f := 111, hin := [(0, .ro l.length 1 (flC l))], args := [.sl 0 l.length], hout := [], ret := bl (decide ((l.length : Int) ≤ 40) || decide ((l.length : Int) = 4097)), σ := σ }
theorem ShortL_s (l : List Nat) (σ : Ren) : (ShortL_i l σ).ok Tryz.prog := by
  unfold ShortL_i Inst.ok; dsimp only; refine spec_of_body (tys := tys) 1 Tryz.func111 (by kernel_rfl) rfl tys_ok rfl (Nat.le_of_ble_eq_true rfl) (fun _ _ h => (by cases h)) fun F hP hm hC hrd => ?_; conv => whnf
  repeat first | refine lwp_seq fun K hK => ?_ | ((with_reducible refine gA ?_); apply_assumption -exfalso -symm) | refine gB ?_ | refine gC ?_ | refine gD ?_ | refine gE ?_ | refine gF rfl ?_ | refine gG rfl ?_ | refine gH ?_ | refine gI ?_ | refine gJ ?_ | refine gK ?_ | refine gL ?_ | refine lwp_region hC ⟨[], [], []⟩ (told0 _ _) rfl ⟨⟩ ?_
  (refine lwp_region hC ⟨[], [], []⟩ (told0 _ _) rfl ?_ ?_; rotate_left 1)
  · repeat first | refine lwp_seq fun K hK => ?_ | ((with_reducible refine gA ?_); apply_assumption -exfalso -symm) | refine gB ?_ | refine gC ?_ | refine gD ?_ | refine gE ?_ | refine gF rfl ?_ | refine gG rfl ?_ | refine gH ?_ | refine gI ?_ | refine gJ ?_ | refine gK ?_ | refine gL ?_ | refine lwp_region hC ⟨[], [], []⟩ (told0 _ _) rfl ⟨⟩ ?_
    (refine end_intro (by first | exact .inr rfl | exact .inl rfl) [] rfl ?_)
    simp only [All, cd_p]
    exact ⟨by rw [bif_or], trivial⟩
  · simp only [AllL, All, cp_p, cd_p]
    generalize decide ((l.length : Int) ≤ 40) = p
    revert p
    decide
def ShortR_i (t : Rn) (σ : Ren) : Inst := { f := 38, hin := rnIn t, args := [rnA 0 1 t], hout := [], ret := bl (shortR t), σ := σ }
set_option maxHeartbeats 1000000 in
theorem ShortR_s (t : Rn) (σ : Ren) : (ShortR_i t σ).ok Tryz.prog := by
  by_cases h : (t.name.size : Int) ≤ 40
  · have e : shortR t = (bif (bif true then (decide ((t.smp.length : Int) ≤ 40) || decide ((t.smp.length : Int) = 4097)) else false) then decide ((t.holes.length : Int) ≤ 12) else false) := by
      unfold shortR; rw [decide_eq_true h, bif_and]; rfl
    unfold ShortR_i Inst.ok; dsimp only; refine spec_of_body (tys := tys) 2 Tryz.func38 (by kernel_rfl) rfl tys_ok rfl (Nat.le_of_ble_eq_true rfl) (fun _ _ h => (by cases h)) fun F hP hm hC hrd => ?_; conv => whnf
    repeat first | refine lwp_seq fun K hK => ?_ | ((with_reducible refine gA ?_); apply_assumption -exfalso -symm) | refine gB ?_ | refine gC ?_ | refine gD ?_ | refine gE ?_ | refine gF rfl ?_ | refine gG rfl ?_ | refine gH ?_ | refine gI ?_ | refine gJ ?_ | refine gK ?_ | refine gL ?_ | refine lwp_region hC ⟨[], [], []⟩ (told0 _ _) rfl ⟨⟩ ?_
    (refine lwp_region hC ⟨[(4, { b := some true })], [], [(7, ShortL_i t.smp [(0, some 0)])]⟩ (told1 _ (by rw [hP]; exact (calls_cons (ShortL_s _ _) calls_nil))) rfl ?_ ?_; rotate_left 1)
    · repeat first | refine lwp_seq fun K hK => ?_ | ((with_reducible refine gA ?_); apply_assumption -exfalso -symm) | refine gB ?_ | refine gC ?_ | refine gD ?_ | refine gE ?_ | refine gF rfl ?_ | refine gG rfl ?_ | refine gH ?_ | refine gI ?_ | refine gJ ?_ | refine gK ?_ | refine gL ?_ | refine lwp_region hC ⟨[], [], []⟩ (told0 _ _) rfl ⟨⟩ ?_
      (refine end_intro (by first | exact .inr rfl | exact .inl rfl) [] rfl ?_)
      exact ⟨e, trivial⟩
    · simp [AllL, All, cd_p, cp_p, h]
  · have e : shortR t = false := by unfold shortR; rw [decide_eq_false h]; rfl
    unfold ShortR_i Inst.ok; dsimp only; refine spec_of_body (tys := tys) 2 Tryz.func38 (by kernel_rfl) rfl tys_ok rfl (Nat.le_of_ble_eq_true rfl) (fun _ _ h => (by cases h)) fun F hP hm hC hrd => ?_; conv => whnf
    repeat first | refine lwp_seq fun K hK => ?_ | ((with_reducible refine gA ?_); apply_assumption -exfalso -symm) | refine gB ?_ | refine gC ?_ | refine gD ?_ | refine gE ?_ | refine gF rfl ?_ | refine gG rfl ?_ | refine gH ?_ | refine gI ?_ | refine gJ ?_ | refine gK ?_ | refine gL ?_ | refine lwp_region hC ⟨[], [], []⟩ (told0 _ _) rfl ⟨⟩ ?_
    (refine lwp_region hC ⟨[(4, { b := some false }), (5, { g := some false }), (6, { g := some false }), (7, { g := some false })], [], []⟩ (told0 _ _) rfl ?_ ?_; rotate_left 1)
    · repeat first | refine lwp_seq fun K hK => ?_ | ((with_reducible refine gA ?_); apply_assumption -exfalso -symm) | refine gB ?_ | refine gC ?_ | refine gD ?_ | refine gE ?_ | refine gF rfl ?_ | refine gG rfl ?_ | refine gH ?_ | refine gI ?_ | refine gJ ?_ | refine gK ?_ | refine gL ?_ | refine lwp_region hC ⟨[], [], []⟩ (told0 _ _) rfl ⟨⟩ ?_
      (refine end_intro (by first | exact .inr rfl | exact .inl rfl) [] rfl ?_)
      exact ⟨e, trivial⟩
    · simp [AllL, All, cd_p, cp_p, h]

end Go.Proofs.YtoopgdchiljmiaaGreatDoor

namespace Go.Proofs.YtoopgdchiljmiaaGreatDoor
open Go.RowKit Go.Sym

theorem eqSpan (a b c d : Int) : eqT Tryz.prog 20 168 (.agg #[.int .i64 a, .int .i64 b]) (.agg #[.int .i64 c, .int .i64 d]) = some (a == c && b == d) := by
  have e : eqT Tryz.prog 20 168 (.agg #[.int .i64 a, .int .i64 b]) (.agg #[.int .i64 c, .int .i64 d]) = (match some (a == c) with | some true => (match some (b == d) with | some true => some true | some false => some false | none => none) | some false => some false | none => none) := by kernel_rfl
  rw [e]
  cases a == c <;> cases b == d <;> rfl
def custSpan : Custom := ⟨fun o l => match o.op, l with
  | .binOp .neq t _ _ _, [.agg [.lit (.int .i64 a), .lit (.int .i64 b)], .agg [.lit (.int .i64 c), .lit (.int .i64 d)]] => match Nat.beq t 168 with
    | true => some (.lit (.bool (!(decide (a = c) && decide (b = d)))))
    | false => none
  | _, _ => none⟩
theorem custSpan_ok : custSpan.ok Tryz.prog := by
  intro o l r h ρ w e vs hd hv
  dsimp only [custSpan] at h
  split at h
  · rename_i t x y yt a b c d ho
    split at h
    · rename_i ht
      cases Nat.eq_of_beq_eq_true ht
      cases h
      simp only [AV.denL, AV.den, listO, Option.map_some, Option.some.injEq] at hd
      subst hd
      rw [ho] at hv
      simp only [Op.operands, List.map_cons, List.map_nil, List.cons.injEq, and_true] at hv
      obtain ⟨e1, e2⟩ := hv
      refine ⟨_, rfl, ?_⟩
      have hb : binV Tryz.prog .neq 168 (.agg #[.int .i64 a, .int .i64 b]) (.agg #[.int .i64 c, .int .i64 d]) = some (.bool (!(decide (a = c) && decide (b = d)))) := by
        have hg : Tryz.prog.eqGuardType Tryz.prog.depth 168 = false := by kernel_rfl
        simp only [binV, hg, eqSpan]
        rfl
      have := binV_run hb x y w
      simp only [execOp, ho, Sem.run_bind, e1, e2] at this ⊢
      rw [this]
      rfl
    · cases h
  · cases h

theorem take_ext {α : Type} {a b : List α} (d : α) (k : Nat) (hk : k < a.length) (hk2 : k < b.length) (h : a.take k = b.take k) (e : a.getD k d = b.getD k d) : a.take (k + 1) = b.take (k + 1) := by
  rw [take_snoc a d k hk, take_snoc b d k hk2, h, e]
theorem take_ne {α : Type} {a b : List α} (d : α) (k : Nat) (e : a.getD k d ≠ b.getD k d) : a ≠ b := fun h => e (by rw [h])
def SameSpans_i (a b : List (Int × Int)) (σ : Ren) : Inst := { f := 74, hin := [(0, .ro a.length 2 (spC a)), (1, .ro b.length 2 (spC b))], args := [.sl 0 a.length, .sl 1 b.length], hout := [], ret := bl (decide (a = b)), σ := σ }
theorem pair_eq (x y : Int × Int) : (decide (x.1 = y.1) && decide (x.2 = y.2)) = decide (x = y) := by
  rw [Bool.eq_iff_iff]; simp [Prod.ext_iff]
set_option maxHeartbeats 1000000 in
theorem SameSpans_s (a b : List (Int × Int)) (σ : Ren) (ha : a.length ≤ 1000000) : (SameSpans_i a b σ).ok Tryz.prog := by
  unfold SameSpans_i Inst.ok; dsimp only; refine spec_of_body (tys := tys) 2 Tryz.func74 (by kernel_rfl) rfl tys_ok rfl (Nat.le_of_ble_eq_true rfl) (fun _ _ h => (by cases h)) fun F hP hm hC hrd => ?_; conv => whnf
  repeat first | refine lwp_seq fun K hK => ?_ | ((with_reducible refine gA ?_); apply_assumption -exfalso -symm) | refine gB ?_ | refine gC ?_ | refine gD ?_ | refine gE ?_ | refine gF rfl ?_ | refine gG rfl ?_ | refine gH ?_ | refine gI ?_ | refine gJ ?_ | refine gK ?_ | refine gL ?_ | refine lwp_region hC ⟨[], [], []⟩ (told0 _ _) rfl ⟨⟩ ?_ | refine lwp_region hC ⟨[], [], []⟩ (told0 _ _) rfl (by exact sd) ?_
  (refine lwp_cond hC rfl (by first | exact ⟨⟩ | exact sd) (fun hb => ?_) (fun hb => ?_) <;> (try simp only [decide_eq_true_eq, decide_eq_false_iff_not, Bool.not_eq_true', Bool.not_eq_false', ne_eq, Decidable.not_not] at hb))
  · repeat first | refine lwp_seq fun K hK => ?_ | ((with_reducible refine gA ?_); apply_assumption -exfalso -symm) | refine gB ?_ | refine gC ?_ | refine gD ?_ | refine gE ?_ | refine gF rfl ?_ | refine gG rfl ?_ | refine gH ?_ | refine gI ?_ | refine gJ ?_ | refine gK ?_ | refine gL ?_ | refine lwp_region hC ⟨[], [], []⟩ (told0 _ _) rfl ⟨⟩ ?_ | refine lwp_region hC ⟨[], [], []⟩ (told0 _ _) rfl (by exact sd) ?_
    (refine end_intro (by first | exact .inr rfl | exact .inl rfl) [] rfl ?_)
    refine ⟨decide_eq_false (?_ : ¬ a = b), trivial⟩
    rintro rfl
    exact hb rfl
  · have hl : a.length = b.length := by omega
    repeat first | refine lwp_seq fun K hK => ?_ | ((with_reducible refine gA ?_); apply_assumption -exfalso -symm) | refine gB ?_ | refine gC ?_ | refine gD ?_ | refine gE ?_ | refine gF rfl ?_ | refine gG rfl ?_ | refine gH ?_ | refine gI ?_ | refine gJ ?_ | refine gK ?_ | refine gL ?_ | refine lwp_region hC ⟨[], [], []⟩ (told0 _ _) rfl ⟨⟩ ?_ | refine lwp_region hC ⟨[], [], []⟩ (told0 _ _) rfl (by exact sd) ?_
    refine lwp_loop (fun k : Nat => ⟨[(5, i64 k), (0, .sl 0 a.length), (1, .sl 1 b.length)], [(0, .ro a.length 2 (spC a)), (1, .ro b.length 2 (spC b))], 2⟩) (fun k => k ≤ a.length ∧ a.take k = b.take k) (fun k => a.length - k) 0 ⟨?_, sub_intro hm [(0, some 0), (1, some 1)] rfl ?_⟩ ?_
    · exact ⟨Nat.zero_le _, rfl⟩
    · exact sd
    · rintro k ⟨hk, hf⟩
      have hkk : ((k : Int)).toNat = k := Int.toNat_natCast k
      repeat first | refine lwp_seq fun K hK => ?_ | ((with_reducible refine gA ?_); apply_assumption -exfalso -symm) | refine gB ?_ | refine gC ?_ | refine gD ?_ | refine gE ?_ | refine gF rfl ?_ | refine gG rfl ?_ | refine gH ?_ | refine gI ?_ | refine gJ ?_ | refine gK ?_ | refine gL ?_ | refine lwp_region hC ⟨[], [], []⟩ (told0 _ _) rfl ⟨⟩ ?_ | refine lwp_region hC ⟨[], [], []⟩ (told0 _ _) rfl (by exact sd) ?_
      (refine lwp_cond hC rfl (by first | exact ⟨⟩ | exact sd) (fun hb => ?_) (fun hb => ?_) <;> (try simp only [decide_eq_true_eq, decide_eq_false_iff_not, Bool.not_eq_true', Bool.not_eq_false', ne_eq, Decidable.not_not] at hb))
      · have hk2 : k < a.length := by omega
        have hk3 : k < b.length := by omega
        repeat first | refine lwp_seq fun K hK => ?_ | ((with_reducible refine gA ?_); apply_assumption -exfalso -symm) | refine gB ?_ | refine gC ?_ | refine gD ?_ | refine gE ?_ | refine gF rfl ?_ | refine gG rfl ?_ | refine gH ?_ | refine gI ?_ | refine gJ ?_ | refine gK ?_ | refine gL ?_ | refine lwp_region hC ⟨[], [], []⟩ (told0 _ _) rfl ⟨⟩ ?_ | refine lwp_region hC ⟨[], [], []⟩ (told0 _ _) rfl (by exact sd) ?_
        (refine lwp_drawn hC (by rw [hP]; exact mixed) ⟨[], [(8, custSpan)], []⟩ ⟨(fun p hp => by rcases List.mem_cons.1 hp with rfl | hp; rw [hP]; exact custSpan_ok; cases hp), (fun _ h => (by cases h))⟩ [0, 0, 3, 7, 0, 0, 48, 112, 255] 8 rfl ?_ ?_; rotate_left 1)
        · repeat first | refine lwp_seq fun K hK => ?_ | ((with_reducible refine gA ?_); apply_assumption -exfalso -symm) | refine gB ?_ | refine gC ?_ | refine gD ?_ | refine gE ?_ | refine gF rfl ?_ | refine gG rfl ?_ | refine gH ?_ | refine gI ?_ | refine gJ ?_ | refine gK ?_ | refine gL ?_ | refine lwp_region hC ⟨[], [], []⟩ (told0 _ _) rfl ⟨⟩ ?_ | refine lwp_region hC ⟨[], [], []⟩ (told0 _ _) rfl (by exact sd) ?_
          (refine lwp_cond hC rfl (by first | exact ⟨⟩ | exact sd) (fun hb => ?_) (fun hb => ?_) <;> (try simp only [decide_eq_true_eq, decide_eq_false_iff_not, Bool.not_eq_true', Bool.not_eq_false', ne_eq, Decidable.not_not] at hb))
          · rw [hkk, pair_eq] at hb
            have hne := of_decide_eq_false hb
            clear hb
            repeat first | refine lwp_seq fun K hK => ?_ | ((with_reducible refine gA ?_); apply_assumption -exfalso -symm) | refine gB ?_ | refine gC ?_ | refine gD ?_ | refine gE ?_ | refine gF rfl ?_ | refine gG rfl ?_ | refine gH ?_ | refine gI ?_ | refine gJ ?_ | refine gK ?_ | refine gL ?_ | refine lwp_region hC ⟨[], [], []⟩ (told0 _ _) rfl ⟨⟩ ?_ | refine lwp_region hC ⟨[], [], []⟩ (told0 _ _) rfl (by exact sd) ?_
            (refine end_intro (by first | exact .inr rfl | exact .inl rfl) [] rfl ?_)
            refine ⟨decide_eq_false (?_ : ¬ a = b), trivial⟩
            exact take_ne (0, 0) k hne
          · rw [hkk, pair_eq] at hb
            have heq := of_decide_eq_true hb
            repeat first | refine lwp_seq fun K hK => ?_ | ((with_reducible refine gA ?_); apply_assumption -exfalso -symm) | refine gB ?_ | refine gC ?_ | refine gD ?_ | refine gE ?_ | refine gF rfl ?_ | refine gG rfl ?_ | refine gH ?_ | refine gI ?_ | refine gJ ?_ | refine gK ?_ | refine gL ?_ | refine lwp_region hC ⟨[], [], []⟩ (told0 _ _) rfl ⟨⟩ ?_ | refine lwp_region hC ⟨[], [], []⟩ (told0 _ _) rfl (by exact sd) ?_
            refine gA ⟨k + 1, ?_, ?_, sub_intro hm [(0, some 0), (1, some 1)] rfl ?_⟩
            · exact ⟨by omega, take_ext (0, 0) k hk2 hk3 hf heq⟩
            · omega
            · exact sd
        · rw [hkk]; exact sd
      · repeat first | refine lwp_seq fun K hK => ?_ | ((with_reducible refine gA ?_); apply_assumption -exfalso -symm) | refine gB ?_ | refine gC ?_ | refine gD ?_ | refine gE ?_ | refine gF rfl ?_ | refine gG rfl ?_ | refine gH ?_ | refine gI ?_ | refine gJ ?_ | refine gK ?_ | refine gL ?_ | refine lwp_region hC ⟨[], [], []⟩ (told0 _ _) rfl ⟨⟩ ?_ | refine lwp_region hC ⟨[], [], []⟩ (told0 _ _) rfl (by exact sd) ?_
        (refine end_intro (by first | exact .inr rfl | exact .inl rfl) [] rfl ?_)
        refine ⟨decide_eq_true (?_ : a = b), trivial⟩
        have e : k = a.length := by omega
        have e1 : a.take k = a := List.take_of_length_le (by omega)
        have e2 : b.take k = b := List.take_of_length_le (by omega)
        rw [e1, e2] at hf
        exact hf

/-- Lists of samples that are the same numbers. -/
def SameN (l q : List Nat) : Prop := q.length = l.length ∧ ∀ k, k < l.length → Op.floatEq .f32 (l.getD k 0) (q.getD k 0) = true
def SameF2_i (l q : List Nat) (σ : Ren) : Inst := { f := 163, hin := [(0, .ro l.length 1 (flC l)), (1, .ro q.length 1 (flC q))], args := [.sl 0 l.length, .sl 1 q.length], hout := [], ret := bl true, σ := σ }
theorem SameF2_s (l q : List Nat) (σ : Ren) (hv : SameN l q) (hl : l.length ≤ 1000000) : (SameF2_i l q σ).ok Tryz.prog := by
  obtain ⟨he, hv⟩ := hv
  unfold SameF2_i Inst.ok; dsimp only; refine spec_of_body (tys := tys) 2 Tryz.func163 (by kernel_rfl) rfl tys_ok rfl (Nat.le_of_ble_eq_true rfl) (fun _ _ h => (by cases h)) fun F hP hm hC hrd => ?_; conv => whnf
  repeat first | refine lwp_seq fun K hK => ?_ | ((with_reducible refine gA ?_); apply_assumption -exfalso -symm) | refine gB ?_ | refine gC ?_ | refine gD ?_ | refine gE ?_ | refine gF rfl ?_ | refine gG rfl ?_ | refine gH ?_ | refine gI ?_ | refine gJ ?_ | refine gK ?_ | refine gL ?_ | refine lwp_region hC ⟨[], [], []⟩ (told0 _ _) rfl ⟨⟩ ?_ | refine lwp_region hC ⟨[], [], []⟩ (told0 _ _) rfl (by exact sd) ?_
  (refine lwp_cond hC rfl (by first | exact ⟨⟩ | exact sd) (fun hb => ?_) (fun hb => ?_) <;> (try simp only [decide_eq_true_eq, decide_eq_false_iff_not, Bool.not_eq_true', Bool.not_eq_false', ne_eq, Decidable.not_not] at hb))
  · omega
  · repeat first | refine lwp_seq fun K hK => ?_ | ((with_reducible refine gA ?_); apply_assumption -exfalso -symm) | refine gB ?_ | refine gC ?_ | refine gD ?_ | refine gE ?_ | refine gF rfl ?_ | refine gG rfl ?_ | refine gH ?_ | refine gI ?_ | refine gJ ?_ | refine gK ?_ | refine gL ?_ | refine lwp_region hC ⟨[], [], []⟩ (told0 _ _) rfl ⟨⟩ ?_ | refine lwp_region hC ⟨[], [], []⟩ (told0 _ _) rfl (by exact sd) ?_
    refine lwp_loop (fun k : Nat => ⟨[(5, i64 k), (0, .sl 0 l.length), (1, .sl 1 q.length)], [(0, .ro l.length 1 (flC l)), (1, .ro q.length 1 (flC q))], 2⟩) (fun k => k ≤ l.length) (fun k => l.length - k) 0 ⟨?_, sub_intro hm [(0, some 0), (1, some 1)] rfl ?_⟩ ?_
    · exact Nat.zero_le _
    · exact sd
    · rintro k hk
      repeat first | refine lwp_seq fun K hK => ?_ | ((with_reducible refine gA ?_); apply_assumption -exfalso -symm) | refine gB ?_ | refine gC ?_ | refine gD ?_ | refine gE ?_ | refine gF rfl ?_ | refine gG rfl ?_ | refine gH ?_ | refine gI ?_ | refine gJ ?_ | refine gK ?_ | refine gL ?_ | refine lwp_region hC ⟨[], [], []⟩ (told0 _ _) rfl ⟨⟩ ?_ | refine lwp_region hC ⟨[], [], []⟩ (told0 _ _) rfl (by exact sd) ?_
      (refine lwp_cond hC rfl (by first | exact ⟨⟩ | exact sd) (fun hb => ?_) (fun hb => ?_) <;> (try simp only [decide_eq_true_eq, decide_eq_false_iff_not, Bool.not_eq_true', Bool.not_eq_false', ne_eq, Decidable.not_not] at hb))
      · have hk2 : k < l.length := by omega
        have hsame := hv k hk2
        have hkk : ((k : Int)).toNat = k := Int.toNat_natCast k
        repeat first | refine lwp_seq fun K hK => ?_ | ((with_reducible refine gA ?_); apply_assumption -exfalso -symm) | refine gB ?_ | refine gC ?_ | refine gD ?_ | refine gE ?_ | refine gF rfl ?_ | refine gG rfl ?_ | refine gH ?_ | refine gI ?_ | refine gJ ?_ | refine gK ?_ | refine gL ?_ | refine lwp_region hC ⟨[], [], []⟩ (told0 _ _) rfl ⟨⟩ ?_
        (refine lwp_drawn hC (by rw [hP]; exact mixed) ⟨[], [], []⟩ (told0 _ _) [0, 0, 3, 7, 0, 0, 48, 112, 255] 8 rfl ?_ ?_; rotate_left 1)
        · repeat first | refine lwp_seq fun K hK => ?_ | ((with_reducible refine gA ?_); apply_assumption -exfalso -symm) | refine gB ?_ | refine gC ?_ | refine gD ?_ | refine gE ?_ | refine gF rfl ?_ | refine gG rfl ?_ | refine gH ?_ | refine gI ?_ | refine gJ ?_ | refine gK ?_ | refine gL ?_ | refine lwp_region hC ⟨[], [], []⟩ (told0 _ _) rfl ⟨⟩ ?_
          rw [hkk, hsame]
          (refine lwp_cond hC rfl (by first | exact ⟨⟩ | exact sd) (fun hb => ?_) (fun hb => ?_) <;> (try simp only [decide_eq_true_eq, decide_eq_false_iff_not, Bool.not_eq_true', Bool.not_eq_false', ne_eq, Decidable.not_not] at hb))
          · cases hb
          · repeat first | refine lwp_seq fun K hK => ?_ | ((with_reducible refine gA ?_); apply_assumption -exfalso -symm) | refine gB ?_ | refine gC ?_ | refine gD ?_ | refine gE ?_ | refine gF rfl ?_ | refine gG rfl ?_ | refine gH ?_ | refine gI ?_ | refine gJ ?_ | refine gK ?_ | refine gL ?_ | refine lwp_region hC ⟨[], [], []⟩ (told0 _ _) rfl ⟨⟩ ?_ | refine lwp_region hC ⟨[], [], []⟩ (told0 _ _) rfl (by exact sd) ?_
            refine gA ⟨k + 1, ?_, ?_, sub_intro hm [(0, some 0), (1, some 1)] rfl ?_⟩
            · omega
            · omega
            · exact sd
        · rw [hkk]; exact sd
      · repeat first | refine lwp_seq fun K hK => ?_ | ((with_reducible refine gA ?_); apply_assumption -exfalso -symm) | refine gB ?_ | refine gC ?_ | refine gD ?_ | refine gE ?_ | refine gF rfl ?_ | refine gG rfl ?_ | refine gH ?_ | refine gI ?_ | refine gJ ?_ | refine gK ?_ | refine gL ?_ | refine lwp_region hC ⟨[], [], []⟩ (told0 _ _) rfl ⟨⟩ ?_ | refine lwp_region hC ⟨[], [], []⟩ (told0 _ _) rfl (by exact sd) ?_
        (refine end_intro (by first | exact .inr rfl | exact .inl rfl) [] rfl ?_)
        exact ⟨rfl, trivial⟩
def wthW (t : Rn) (q : List Nat) : Rn := ⟨t.name, t.first, q, t.holes⟩
def two2 (t : Rn) (q : List Nat) : List (Nat × Chunk) := [(0, .ro t.smp.length 1 (flC t.smp)), (1, .ro t.holes.length 2 (spC t.holes)), (2, .ro q.length 1 (flC q)), (3, .ro t.holes.length 2 (spC t.holes))]
def SameR2_i (t : Rn) (q : List Nat) (σ : Ren) : Inst := { f := 88, hin := two2 t q, args := [rnA 0 1 t, rnA 2 3 (wthW t q)], hout := [], ret := bl true, σ := σ }
theorem SameR2_s (t : Rn) (q : List Nat) (σ : Ren) (hv : SameN t.smp q) (h1 : t.smp.length ≤ 1000000) (h2 : t.holes.length ≤ 1000000) : (SameR2_i t q σ).ok Tryz.prog := by
  unfold SameR2_i Inst.ok; dsimp only; refine spec_of_body (tys := tys) 4 Tryz.func88 (by kernel_rfl) rfl tys_ok rfl (Nat.le_of_ble_eq_true rfl) (fun _ _ h => (by cases h)) fun F hP hm hC hrd => ?_; conv => whnf
  repeat first | refine lwp_seq fun K hK => ?_ | ((with_reducible refine gA ?_); apply_assumption -exfalso -symm) | refine gB ?_ | refine gC ?_ | refine gD ?_ | refine gE ?_ | refine gF rfl ?_ | refine gG rfl ?_ | refine gH ?_ | refine gI ?_ | refine gJ ?_ | refine gK ?_ | refine gL ?_ | refine lwp_region hC ⟨[], [], []⟩ (told0 _ _) rfl ⟨⟩ ?_
  (refine lwp_region hC ⟨[(5, { b := some true }), (12, { b := some true }), (19, { b := some true })], [], [(17, SameF2_i t.smp q [(0, some 0), (1, some 2)]), (24, SameSpans_i t.holes t.holes [(0, some 1), (1, some 3)])]⟩ (told1 _ (by rw [hP]; exact (calls_cons (SameF2_s _ _ _ hv h1) (calls_cons (SameSpans_s _ _ _ h2) calls_nil)))) rfl ?_ ?_; rotate_left 1)
  · repeat first | refine lwp_seq fun K hK => ?_ | ((with_reducible refine gA ?_); apply_assumption -exfalso -symm) | refine gB ?_ | refine gC ?_ | refine gD ?_ | refine gE ?_ | refine gF rfl ?_ | refine gG rfl ?_ | refine gH ?_ | refine gI ?_ | refine gJ ?_ | refine gK ?_ | refine gL ?_ | refine lwp_region hC ⟨[], [], []⟩ (told0 _ _) rfl ⟨⟩ ?_ | refine lwp_region hC ⟨[], [], []⟩ (told0 _ _) rfl (by exact sd) ?_
    (refine end_intro (by first | exact .inr rfl | exact .inl rfl) [] rfl ?_)
    simp only [All, cd_p]
    exact ⟨by simp, trivial⟩
  · simp [AllL, All, cd_p, cp_p, wthW]
def Placed2_i (t : Rn) (q : List Nat) (e : Int) (σ : Ren) : Inst := { f := 46, hin := two2 t q, args := [rnA 0 1 t, i64 e, i64 e, rnA 2 3 (wthW t q)], hout := [], ret := bl true, σ := σ }
theorem Placed2_s (t : Rn) (q : List Nat) (e : Int) (σ : Ren) (hv : SameN t.smp q) (h1 : t.smp.length ≤ 1000000) (h2 : t.holes.length ≤ 1000000) : (Placed2_i t q e σ).ok Tryz.prog := by
  unfold Placed2_i Inst.ok; dsimp only; refine spec_of_body (tys := tys) 4 Tryz.func46 (by kernel_rfl) rfl tys_ok rfl (Nat.le_of_ble_eq_true rfl) (fun _ _ h => (by cases h)) fun F hP hm hC hrd => ?_; conv => whnf
  repeat first | refine lwp_seq fun K hK => ?_ | ((with_reducible refine gA ?_); apply_assumption -exfalso -symm) | refine gB ?_ | refine gC ?_ | refine gD ?_ | refine gE ?_ | refine gF rfl ?_ | refine gG rfl ?_ | refine gH ?_ | refine gI ?_ | refine gJ ?_ | refine gK ?_ | refine gL ?_ | refine lwp_region hC ⟨[], [], []⟩ (told0 _ _) rfl ⟨⟩ ?_
  (refine lwp_drawn hC (by rw [hP]; exact mixed) ⟨[(3, { b := some true })], [], [(5, Told_i t [(0, some 0), (1, some 1)]), (7, SameR2_i t q [(0, some 0), (1, some 1), (2, some 2), (3, some 3)])]⟩ (told1 _ (by rw [hP]; exact (calls_cons (Told_s _ _) (calls_cons (SameR2_s _ _ _ hv h1 h2) calls_nil)))) [0, 0, 3, 7, 15, 31, 15, 127, 255, 511] 7 rfl ?_ ?_; rotate_left 1)
  · repeat first | refine lwp_seq fun K hK => ?_ | ((with_reducible refine gA ?_); apply_assumption -exfalso -symm) | refine gB ?_ | refine gC ?_ | refine gD ?_ | refine gE ?_ | refine gF rfl ?_ | refine gG rfl ?_ | refine gH ?_ | refine gI ?_ | refine gJ ?_ | refine gK ?_ | refine gL ?_ | refine lwp_region hC ⟨[], [], []⟩ (told0 _ _) rfl ⟨⟩ ?_ | refine lwp_region hC ⟨[], [], []⟩ (told0 _ _) rfl (by exact sd) ?_
    (refine end_intro (by first | exact .inr rfl | exact .inl rfl) [] rfl ?_)
    exact ⟨rfl, trivial⟩
  · simp [AllL, All, cd_p, cp_p, cv_p, wthW]

end Go.Proofs.YtoopgdchiljmiaaGreatDoor
