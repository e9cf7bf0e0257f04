/- The law ChordBlind: its run. -/
import Derived.Test.YtbpffadffbgloaaDoorAw
import Derived.Test.YtbpffadffbgloaaDoorWm
import Derived.Test.YtbpffadffbgloaaDoorYp
set_option linter.unusedVariables false
set_option linter.unusedSimpArgs false
namespace Go.Proofs.YtbpffadffbgloaaDoor
open Go.RowKit Go.Sym

def perK (l : List Int) (g k : Nat) : Bool := (List.range k).all fun i => decide (l.getD i 0 = l.getD (i % g) 0)
theorem perK_succ (l : List Int) (g k : Nat) : perK l g (k + 1) = (perK l g k && decide (l.getD k 0 = l.getD (k % g) 0)) := by
  unfold perK; rw [List.range_succ, List.all_append]; simp
theorem perK_all (l : List Int) (g : Nat) : perK l g l.length = perB l g := rfl
def fourK (l : List Int) (k : Nat) : List Int := [if 0 < k then lev l 0 else 0, if 1 < k then lev l 1 else 0, if 2 < k then lev l 2 else 0, if 3 < k then lev l 3 else 0]
theorem fourK_len (l : List Int) (k : Nat) : (fourK l k).length = 4 := rfl
theorem RepS_lev (l : List Int) : RepS (fourK l 4) 100 80 = (trT l, 0) := by
  have e : fourK l 4 = levL l := rfl
  have hw : wavesS (levL l) = 0 := by
    have h1 := lev_bound l 0
    have h2 := lev_bound l 1
    have h3 := lev_bound l 2
    have h4 := lev_bound l 3
    refine wavesS_none (show 1 ≤ 4 by omega) (show 4 ≤ 64 by omega) fun i hi => ?_
    have hi : i < 4 := hi
    unfold levelS
    rw [withinS_eq]
    obtain rfl | rfl | rfl | rfl : i = 0 ∨ i = 1 ∨ i = 2 ∨ i = 3 := by omega
    · show -16384 ≤ lev l 0 ∧ lev l 0 ≤ 16384; omega
    · show -16384 ≤ lev l 1 ∧ lev l 1 ≤ 16384; omega
    · show -16384 ≤ lev l 2 ∧ lev l 2 ≤ 16384; omega
    · show -16384 ≤ lev l 3 ∧ lev l 3 ≤ 16384; omega
  rw [e]
  unfold RepS repE
  rw [hw]
  rfl
theorem trf_is {b a : Int} (hc : chordS b a = 0) : ∃ F0 G0 F1 G1 F2 G2 F3 G3 : Nat, trfA b a = .agg [cxA F0 G0, cxA F1 G1, cxA F2 G2, cxA F3 G3] ∧
    (F0 = fl (tR b a 0) ∧ G0 = fl (tI b a 0)) ∧ (F1 = fl (tR b a 1) ∧ G1 = fl (tI b a 1)) ∧ (F2 = fl (tR b a 2) ∧ G2 = fl (tI b a 2)) ∧ (F3 = fl (tR b a 3) ∧ G3 = fl (tI b a 3)) := by
  refine ⟨_, _, _, _, _, _, _, _, rfl, ?_⟩
  unfold cR cI
  simp only [if_pos hc, and_self]
theorem pan_is {t : Tr} {p : Int} {L : List Int} (hE : panE t p = 0) (hL : panL t p = L) : ∃ P0 Q0 P1 Q1 P2 Q2 P3 Q3 : Nat, (pnA t p 0 = cxA P0 Q0 ∧ pnA t p 1 = cxA P1 Q1 ∧ pnA t p 2 = cxA P2 Q2 ∧ pnA t p 3 = cxA P3 Q3) ∧
    (P0 = fl (fR L 0 4) ∧ Q0 = fl (fI L 0 4)) ∧ (P1 = fl (fR L 1 4) ∧ Q1 = fl (fI L 1 4)) ∧ (P2 = fl (fR L 2 4) ∧ Q2 = fl (fI L 2 4)) ∧ (P3 = fl (fR L 3 4) ∧ Q3 = fl (fI L 3 4)) := by
  subst hL
  refine ⟨_, _, _, _, _, _, _, _, ⟨rfl, rfl, rfl, rfl⟩, ?_⟩
  simp only [if_pos hE]
  exact ⟨⟨rfl, rfl⟩, ⟨rfl, rfl⟩, ⟨rfl, rfl⟩, ⟨rfl, rfl⟩⟩
theorem neg_all : (List.range 401).all (fun i => Op.floatEq .f64 (fl (-((i : Int) - 200))) (Op.negFloat .f64 (fl ((i : Int) - 200)))) = true := by kernel_rfl
theorem neg_eq {n : Int} (h0 : -200 ≤ n) (h1 : n ≤ 200) : Op.floatEq .f64 (fl (-n)) (Op.negFloat .f64 (fl n)) = true := by
  have := List.all_eq_true.1 neg_all (n + 200).toNat (List.mem_range.2 (by omega))
  have e : (((n + 200).toNat : Nat) : Int) - 200 = n := by omega
  rwa [e] at this
theorem both_no {x y : Bool} (hx : x = true) (hy : y = true) (h : (bif !x then true else !y) = true) : False := by subst hx hy; cases h
theorem tR_bd {b a : Int} (b0 : 1 ≤ b) (b1 : b ≤ 32) (a0 : 1 ≤ a) (a1 : a ≤ 32) (k : Int) : -200 ≤ tR b a k ∧ tR b a k ≤ 200 := by
  have q1 := pow_mul b0 b1 (k * a % 4)
  have q2 := pow_mul a0 a1 (-k * b % 4)
  unfold tR; omega
theorem tI_bd {b a : Int} (b0 : 1 ≤ b) (b1 : b ≤ 32) (a0 : 1 ≤ a) (a1 : a ≤ 32) (k : Int) : -200 ≤ tI b a k ∧ tI b a k ≤ 200 := by
  have q1 := pow_mul b0 b1 (k * a % 4)
  have q2 := pow_mul a0 a1 (-k * b % 4)
  unfold tI; omega
/-- What the floats of one place come to. -/
theorem place_floats {F G P Q R S : Nat} {x y u v p q : Int} (hF : F = fl x) (hG : G = fl y) (hP : P = fl u) (hQ : Q = fl v) (hR : R = fl p) (hS : S = fl q) (hx : -200 ≤ x ∧ x ≤ 200) (hy : -200 ≤ y ∧ y ≤ 200) (hu : -16000 ≤ u ∧ u ≤ 16000) (hv : -16000 ≤ v ∧ v ≤ 16000) (hp : p = x * u - y * v) (hq : q = x * v + y * u) :
    ∃ m1 m2 m3 m4 w z : Nat, FloatKind.f64.format.mul F P = some m1 ∧ FloatKind.f64.format.mul G Q = some m2 ∧ FloatKind.f64.format.mul F Q = some m3 ∧ FloatKind.f64.format.mul G P = some m4 ∧
      FloatKind.f64.format.sub m1 m2 = some w ∧ FloatKind.f64.format.add m3 m4 = some z ∧ Op.floatEq .f64 R w = true ∧ Op.floatEq .f64 S z = true := by
  subst hF hG hP hQ hR hS
  have bnd : ∀ s t : Int, -200 ≤ s ∧ s ≤ 200 → -16000 ≤ t ∧ t ≤ 16000 → (s * t).natAbs ≤ 3200000 := by
    intro s t hs ht
    rw [Int.natAbs_mul]
    exact Nat.mul_le_mul (show s.natAbs ≤ 200 by omega) (show t.natAbs ≤ 16000 by omega)
  have small : ∀ n : Int, -16000 ≤ n ∧ n ≤ 16000 → IsN (fl n) n := fun n h => isN_fl n (by omega)
  have c1 := bnd x u hx hu
  have c2 := bnd y v hy hv
  have c3 := bnd x v hx hv
  have c4 := bnd y u hy hu
  obtain ⟨m1, a1, n1⟩ := isN_mul (small x (by omega)) (small u hu) (by omega)
  obtain ⟨m2, a2, n2⟩ := isN_mul (small y (by omega)) (small v hv) (by omega)
  obtain ⟨m3, a3, n3⟩ := isN_mul (small x (by omega)) (small v hv) (by omega)
  obtain ⟨m4, a4, n4⟩ := isN_mul (small y (by omega)) (small u hu) (by omega)
  obtain ⟨w, a5, n5⟩ := isN_sub n1 n2 (by omega)
  obtain ⟨z, a6, n6⟩ := isN_add n3 n4 (by omega)
  subst hp hq
  exact ⟨m1, m2, m3, m4, w, z, a1, a2, a3, a4, a5, a6, isN_eq (isN_fl _ (by omega)) n5, isN_eq (isN_fl _ (by omega)) n6⟩
def TrF_i (b a : Int) (F0 G0 F1 G1 F2 G2 F3 G3 : Nat) (σ : Ren) : Inst := { f := 30, gl := powG, hin := [(0, powC)], args := [.agg [i64 b, i64 a]], hout := [], ret := .tup [.agg [cxA F0 G0, cxA F1 G1, cxA F2 G2, cxA F3 G3], i64 0], σ := σ }
theorem TrF_s {b a : Int} {F0 G0 F1 G1 F2 G2 F3 G3 : Nat} (σ : Ren) (hF : trfA b a = .agg [cxA F0 G0, cxA F1 G1, cxA F2 G2, cxA F3 G3]) (hc : chordS b a = 0) : (TrF_i b a F0 G0 F1 G1 F2 G2 F3 G3 σ).ok Tryd.prog := by
  have h := PTransfer_s b a σ
  unfold PTransfer_i at h
  rw [hF, hc] at h
  exact h
def PanF_i (t : Tr) (p : Int) (F0 G0 F1 G1 F2 G2 F3 G3 : Nat) (σ : Ren) : Inst := { f := 53, gl := powG, hin := panIn t, args := [trA 1 2 t, i64 p], hout := [], ret := .tup [.agg [cxA F0 G0, cxA F1 G1, cxA F2 G2, cxA F3 G3], i64 0], σ := σ }
theorem PanF_s {t : Tr} {p : Int} {F0 G0 F1 G1 F2 G2 F3 G3 : Nat} (σ : Ren) (h : pnA t p 0 = cxA F0 G0 ∧ pnA t p 1 = cxA F1 G1 ∧ pnA t p 2 = cxA F2 G2 ∧ pnA t p 3 = cxA F3 G3) (hE : panE t p = 0) : (PanF_i t p F0 G0 F1 G1 F2 G2 F3 G3 σ).ok Tryd.prog := by
  have h2 := PPanel_s t p σ
  unfold PPanel_i at h2
  rw [h.1, h.2.1, h.2.2.1, h.2.2.2, hE] at h2
  exact h2
theorem lev_sums (l : List Int) (k : Int) : (-16000 ≤ fR (levL l) k 4 ∧ fR (levL l) k 4 ≤ 16000) ∧ (-16000 ≤ fI (levL l) k 4 ∧ fI (levL l) k 4 ≤ 16000) := by
  have hb := getD4 (lev_bound l 0) (lev_bound l 1) (lev_bound l 2) (lev_bound l 3)
  have h1 := fR_bound hb k 4
  have h2 := fI_bound hb k 4
  unfold levL
  omega
def LBlind_i (b a d e : Int) (l : List Int) : Inst := { f := 8, gl := powG, hin := [(0, powC), (1, .ro l.length 1 (.ints .i64 l))], args := [.agg [i64 b, i64 a], .agg [i64 d, i64 e], .sl 1 l.length], hout := [], ret := bl true, σ := [] }
set_option maxRecDepth 20000 in
set_option maxHeartbeats 16000000 in
theorem LBlind_s (b a d e : Int) (l : List Int) : (LBlind_i b a d e l).ok Tryd.prog := by
  unfold LBlind_i Inst.ok; dsimp only; refine spec_of_body (tys := tys) 2 Tryd.func8 (by kernel_rfl) rfl tys_ok rfl (Nat.le_of_ble_eq_true rfl) (fun g i h => by simp only [List.mem_cons, List.not_mem_nil, or_false, Prod.mk.injEq] at h; omega) fun F hP hm hC => ?_; conv => whnf
  repeat first | refine lwp_seq fun K hK => ?_ | ((with_reducible refine thenS_normal ?_); apply_assumption -exfalso -symm) | refine thenS_exit ?_ | refine thenS_ret ?_ | refine inBlockS_normal ?_ | refine inBlockS_ret ?_ | refine inBlockS_hit rfl ?_ | refine inBlockS_miss rfl ?_ | refine lwp_block ?_ | refine lwp_skip ?_ | refine lwp_exit ?_ | refine lwp_ret ?_ | refine lwp_label ?_ | refine lwp_region hC ⟨[], [], []⟩ (told0 _ _) rfl True.intro ?_
  by_cases hc : chordS b a = 0
  rotate_left 1
  · (refine lwp_region hC ⟨[(3, { b := some true }), (4, { g := some false }), (5, { g := some false }), (6, { g := some false }), (8, { b := some true }), (9, { g := some false }), (10, { g := some false }), (11, { g := some false }), (13, { b := some true }), (14, { g := some false }), (15, { g := some false }), (16, { g := some false })], [], [(1, RCheckChord_i b a)]⟩ (told1 _ (by rw [hP]; exact (calls_cons (RCheckChord_s _ _) calls_nil))) rfl ?_ ?_; rotate_left 1)
    · repeat first | refine lwp_seq fun K hK => ?_ | ((with_reducible refine thenS_normal ?_); apply_assumption -exfalso -symm) | refine thenS_exit ?_ | refine thenS_ret ?_ | refine inBlockS_normal ?_ | refine inBlockS_ret ?_ | refine inBlockS_hit rfl ?_ | refine inBlockS_miss rfl ?_ | refine lwp_block ?_ | refine lwp_skip ?_ | refine lwp_exit ?_ | refine lwp_ret ?_ | refine lwp_label ?_ | refine lwp_region hC ⟨[], [], []⟩ (told0 _ _) rfl True.intro ?_
      (refine lwp_cond hC rfl (by first | exact True.intro | ((try simp only [AllL, All, cd_p, cp_p, cv_p, InK, and_true, true_and]); all_goals ((repeat' (first | refine And.intro ?_ ?_ | intro _)) <;> first | omega | exact True.intro | assumption | (simp; done) | rfl | (simp_all; done) | (simp_all; omega)))) (fun hb => ?_) (fun hb => ?_) <;> (try simp only [decide_eq_true_eq, decide_eq_false_iff_not, Bool.not_eq_true', Bool.not_eq_false', ne_eq, Decidable.not_not] at hb))
      · repeat first | refine lwp_seq fun K hK => ?_ | ((with_reducible refine thenS_normal ?_); apply_assumption -exfalso -symm) | refine thenS_exit ?_ | refine thenS_ret ?_ | refine inBlockS_normal ?_ | refine inBlockS_ret ?_ | refine inBlockS_hit rfl ?_ | refine inBlockS_miss rfl ?_ | refine lwp_block ?_ | refine lwp_skip ?_ | refine lwp_exit ?_ | refine lwp_ret ?_ | refine lwp_label ?_ | refine lwp_region hC ⟨[], [], []⟩ (told0 _ _) rfl True.intro ?_
        (refine lwp_region hC ⟨[], [], [(0, Awake_i [(0, some 0)])]⟩ (told1 _ (by rw [hP]; exact (calls_cons (Awake_s _) calls_nil))) rfl ?_ ?_; rotate_left 1)
        · repeat first | refine lwp_seq fun K hK => ?_ | ((with_reducible refine thenS_normal ?_); apply_assumption -exfalso -symm) | refine thenS_exit ?_ | refine thenS_ret ?_ | refine inBlockS_normal ?_ | refine inBlockS_ret ?_ | refine inBlockS_hit rfl ?_ | refine inBlockS_miss rfl ?_ | refine lwp_block ?_ | refine lwp_skip ?_ | refine lwp_exit ?_ | refine lwp_ret ?_ | refine lwp_label ?_ | refine lwp_region hC ⟨[], [], []⟩ (told0 _ _) rfl True.intro ?_
          (refine end_intro (by first | exact .inr rfl | exact .inl rfl) [] rfl ?_)
          ((try simp only [AllL, All, cd_p, cp_p, cv_p, InK, and_true, true_and]); all_goals ((repeat' (first | refine And.intro ?_ ?_ | intro _)) <;> first | omega | exact True.intro | assumption | (simp; done) | rfl | (simp_all; done) | (simp_all; omega)))
        · (simp only [AllL, All, cd_p, cp_p, cv_p, InK]; (repeat' (first | refine And.intro ?_ ?_ | intro _)) <;> first | omega | exact True.intro | rfl)
      · exact absurd hb (by simp)
    · simp only [AllL, All, cd_p, cp_p, cv_p, InK, List.length_cons, List.length_nil]
      (repeat' (first | refine And.intro ?_ ?_ | intro _)) <;> first | exact True.intro | rfl | assumption | omega | (simp; done) | contradiction | (simp_all; done)
  by_cases hd : chordS d e = 0
  rotate_left 1
  · (refine lwp_region hC ⟨[(3, { b := some false }), (8, { b := some true }), (9, { g := some false }), (10, { g := some false }), (11, { g := some false }), (13, { b := some true }), (14, { g := some false }), (15, { g := some false }), (16, { g := some false })], [], [(1, RCheckChord_i b a), (5, RCheckChord_i d e)]⟩ (told1 _ (by rw [hP]; exact (calls_cons (RCheckChord_s _ _) (calls_cons (RCheckChord_s _ _) calls_nil)))) rfl ?_ ?_; rotate_left 1)
    · repeat first | refine lwp_seq fun K hK => ?_ | ((with_reducible refine thenS_normal ?_); apply_assumption -exfalso -symm) | refine thenS_exit ?_ | refine thenS_ret ?_ | refine inBlockS_normal ?_ | refine inBlockS_ret ?_ | refine inBlockS_hit rfl ?_ | refine inBlockS_miss rfl ?_ | refine lwp_block ?_ | refine lwp_skip ?_ | refine lwp_exit ?_ | refine lwp_ret ?_ | refine lwp_label ?_ | refine lwp_region hC ⟨[], [], []⟩ (told0 _ _) rfl True.intro ?_
      (refine lwp_cond hC rfl (by first | exact True.intro | ((try simp only [AllL, All, cd_p, cp_p, cv_p, InK, and_true, true_and]); all_goals ((repeat' (first | refine And.intro ?_ ?_ | intro _)) <;> first | omega | exact True.intro | assumption | (simp; done) | rfl | (simp_all; done) | (simp_all; omega)))) (fun hb => ?_) (fun hb => ?_) <;> (try simp only [decide_eq_true_eq, decide_eq_false_iff_not, Bool.not_eq_true', Bool.not_eq_false', ne_eq, Decidable.not_not] at hb))
      · repeat first | refine lwp_seq fun K hK => ?_ | ((with_reducible refine thenS_normal ?_); apply_assumption -exfalso -symm) | refine thenS_exit ?_ | refine thenS_ret ?_ | refine inBlockS_normal ?_ | refine inBlockS_ret ?_ | refine inBlockS_hit rfl ?_ | refine inBlockS_miss rfl ?_ | refine lwp_block ?_ | refine lwp_skip ?_ | refine lwp_exit ?_ | refine lwp_ret ?_ | refine lwp_label ?_ | refine lwp_region hC ⟨[], [], []⟩ (told0 _ _) rfl True.intro ?_
        (refine lwp_region hC ⟨[], [], [(0, Awake_i [(0, some 0)])]⟩ (told1 _ (by rw [hP]; exact (calls_cons (Awake_s _) calls_nil))) rfl ?_ ?_; rotate_left 1)
        · repeat first | refine lwp_seq fun K hK => ?_ | ((with_reducible refine thenS_normal ?_); apply_assumption -exfalso -symm) | refine thenS_exit ?_ | refine thenS_ret ?_ | refine inBlockS_normal ?_ | refine inBlockS_ret ?_ | refine inBlockS_hit rfl ?_ | refine inBlockS_miss rfl ?_ | refine lwp_block ?_ | refine lwp_skip ?_ | refine lwp_exit ?_ | refine lwp_ret ?_ | refine lwp_label ?_ | refine lwp_region hC ⟨[], [], []⟩ (told0 _ _) rfl True.intro ?_
          (refine end_intro (by first | exact .inr rfl | exact .inl rfl) [] rfl ?_)
          ((try simp only [AllL, All, cd_p, cp_p, cv_p, InK, and_true, true_and]); all_goals ((repeat' (first | refine And.intro ?_ ?_ | intro _)) <;> first | omega | exact True.intro | assumption | (simp; done) | rfl | (simp_all; done) | (simp_all; omega)))
        · (simp only [AllL, All, cd_p, cp_p, cv_p, InK]; (repeat' (first | refine And.intro ?_ ?_ | intro _)) <;> first | omega | exact True.intro | rfl)
      · exact absurd hb (by simp)
    · simp only [AllL, All, cd_p, cp_p, cv_p, InK, List.length_cons, List.length_nil]
      (repeat' (first | refine And.intro ?_ ?_ | intro _)) <;> first | exact True.intro | rfl | assumption | omega | (simp; done) | contradiction | (simp_all; done)
  by_cases hl : (24 : Int) < (l.length : Int)
  · (refine lwp_region hC ⟨[(3, { b := some false }), (8, { b := some false }), (13, { b := some true }), (14, { g := some false }), (15, { g := some false }), (16, { g := some false })], [], [(1, RCheckChord_i b a), (5, RCheckChord_i d e)]⟩ (told1 _ (by rw [hP]; exact (calls_cons (RCheckChord_s _ _) (calls_cons (RCheckChord_s _ _) calls_nil)))) rfl ?_ ?_; rotate_left 1)
    · repeat first | refine lwp_seq fun K hK => ?_ | ((with_reducible refine thenS_normal ?_); apply_assumption -exfalso -symm) | refine thenS_exit ?_ | refine thenS_ret ?_ | refine inBlockS_normal ?_ | refine inBlockS_ret ?_ | refine inBlockS_hit rfl ?_ | refine inBlockS_miss rfl ?_ | refine lwp_block ?_ | refine lwp_skip ?_ | refine lwp_exit ?_ | refine lwp_ret ?_ | refine lwp_label ?_ | refine lwp_region hC ⟨[], [], []⟩ (told0 _ _) rfl True.intro ?_
      (refine lwp_cond hC rfl (by first | exact True.intro | ((try simp only [AllL, All, cd_p, cp_p, cv_p, InK, and_true, true_and]); all_goals ((repeat' (first | refine And.intro ?_ ?_ | intro _)) <;> first | omega | exact True.intro | assumption | (simp; done) | rfl | (simp_all; done) | (simp_all; omega)))) (fun hb => ?_) (fun hb => ?_) <;> (try simp only [decide_eq_true_eq, decide_eq_false_iff_not, Bool.not_eq_true', Bool.not_eq_false', ne_eq, Decidable.not_not] at hb))
      · repeat first | refine lwp_seq fun K hK => ?_ | ((with_reducible refine thenS_normal ?_); apply_assumption -exfalso -symm) | refine thenS_exit ?_ | refine thenS_ret ?_ | refine inBlockS_normal ?_ | refine inBlockS_ret ?_ | refine inBlockS_hit rfl ?_ | refine inBlockS_miss rfl ?_ | refine lwp_block ?_ | refine lwp_skip ?_ | refine lwp_exit ?_ | refine lwp_ret ?_ | refine lwp_label ?_ | refine lwp_region hC ⟨[], [], []⟩ (told0 _ _) rfl True.intro ?_
        (refine lwp_region hC ⟨[], [], [(0, Awake_i [(0, some 0)])]⟩ (told1 _ (by rw [hP]; exact (calls_cons (Awake_s _) calls_nil))) rfl ?_ ?_; rotate_left 1)
        · repeat first | refine lwp_seq fun K hK => ?_ | ((with_reducible refine thenS_normal ?_); apply_assumption -exfalso -symm) | refine thenS_exit ?_ | refine thenS_ret ?_ | refine inBlockS_normal ?_ | refine inBlockS_ret ?_ | refine inBlockS_hit rfl ?_ | refine inBlockS_miss rfl ?_ | refine lwp_block ?_ | refine lwp_skip ?_ | refine lwp_exit ?_ | refine lwp_ret ?_ | refine lwp_label ?_ | refine lwp_region hC ⟨[], [], []⟩ (told0 _ _) rfl True.intro ?_
          (refine end_intro (by first | exact .inr rfl | exact .inl rfl) [] rfl ?_)
          ((try simp only [AllL, All, cd_p, cp_p, cv_p, InK, and_true, true_and]); all_goals ((repeat' (first | refine And.intro ?_ ?_ | intro _)) <;> first | omega | exact True.intro | assumption | (simp; done) | rfl | (simp_all; done) | (simp_all; omega)))
        · (simp only [AllL, All, cd_p, cp_p, cv_p, InK]; (repeat' (first | refine And.intro ?_ ?_ | intro _)) <;> first | omega | exact True.intro | rfl)
      · exact absurd hb (by simp)
    · simp only [AllL, All, cd_p, cp_p, cv_p, InK, List.length_cons, List.length_nil]
      (repeat' (first | refine And.intro ?_ ?_ | intro _)) <;> first | exact True.intro | rfl | assumption | omega | (simp; done) | contradiction | (simp_all; done)
  (refine lwp_region hC ⟨[(3, { b := some false }), (8, { b := some false }), (13, { b := some false })], [], [(1, RCheckChord_i b a), (5, RCheckChord_i d e), (15, RWave_i l [(0, some 1)])]⟩ (told1 _ (by rw [hP]; exact (calls_cons (RCheckChord_s _ _) (calls_cons (RCheckChord_s _ _) (calls_cons (RWave_s _ _) calls_nil))))) rfl ?_ ?_; rotate_left 1)
  · repeat first | refine lwp_seq fun K hK => ?_ | ((with_reducible refine thenS_normal ?_); apply_assumption -exfalso -symm) | refine thenS_exit ?_ | refine thenS_ret ?_ | refine inBlockS_normal ?_ | refine inBlockS_ret ?_ | refine inBlockS_hit rfl ?_ | refine inBlockS_miss rfl ?_ | refine lwp_block ?_ | refine lwp_skip ?_ | refine lwp_exit ?_ | refine lwp_ret ?_ | refine lwp_label ?_ | refine lwp_region hC ⟨[], [], []⟩ (told0 _ _) rfl True.intro ?_
    (refine lwp_cond hC rfl (by first | exact True.intro | ((try simp only [AllL, All, cd_p, cp_p, cv_p, InK, and_true, true_and]); all_goals ((repeat' (first | refine And.intro ?_ ?_ | intro _)) <;> first | omega | exact True.intro | assumption | (simp; done) | rfl | (simp_all; done) | (simp_all; omega)))) (fun hb => ?_) (fun hb => ?_) <;> (try simp only [decide_eq_true_eq, decide_eq_false_iff_not, Bool.not_eq_true', Bool.not_eq_false', ne_eq, Decidable.not_not] at hb))
    · repeat first | refine lwp_seq fun K hK => ?_ | ((with_reducible refine thenS_normal ?_); apply_assumption -exfalso -symm) | refine thenS_exit ?_ | refine thenS_ret ?_ | refine inBlockS_normal ?_ | refine inBlockS_ret ?_ | refine inBlockS_hit rfl ?_ | refine inBlockS_miss rfl ?_ | refine lwp_block ?_ | refine lwp_skip ?_ | refine lwp_exit ?_ | refine lwp_ret ?_ | refine lwp_label ?_ | refine lwp_region hC ⟨[], [], []⟩ (told0 _ _) rfl True.intro ?_
      (refine lwp_region hC ⟨[], [], [(0, Awake_i [(0, some 0)])]⟩ (told1 _ (by rw [hP]; exact (calls_cons (Awake_s _) calls_nil))) rfl ?_ ?_; rotate_left 1)
      · repeat first | refine lwp_seq fun K hK => ?_ | ((with_reducible refine thenS_normal ?_); apply_assumption -exfalso -symm) | refine thenS_exit ?_ | refine thenS_ret ?_ | refine inBlockS_normal ?_ | refine inBlockS_ret ?_ | refine inBlockS_hit rfl ?_ | refine inBlockS_miss rfl ?_ | refine lwp_block ?_ | refine lwp_skip ?_ | refine lwp_exit ?_ | refine lwp_ret ?_ | refine lwp_label ?_ | refine lwp_region hC ⟨[], [], []⟩ (told0 _ _) rfl True.intro ?_
        (refine end_intro (by first | exact .inr rfl | exact .inl rfl) [] rfl ?_)
        ((try simp only [AllL, All, cd_p, cp_p, cv_p, InK, and_true, true_and]); all_goals ((repeat' (first | refine And.intro ?_ ?_ | intro _)) <;> first | omega | exact True.intro | assumption | (simp; done) | rfl | (simp_all; done) | (simp_all; omega)))
      · (simp only [AllL, All, cd_p, cp_p, cv_p, InK]; (repeat' (first | refine And.intro ?_ ?_ | intro _)) <;> first | omega | exact True.intro | rfl)
    have hw : wavesS l = 0 := by simpa using hb
    have hwv := wavesS_ok hw
    have hco := chordS_ok hc
    have hde := chordS_ok hd
    clear hb
    obtain ⟨B, rfl⟩ := Int.eq_ofNat_of_zero_le (show 0 ≤ b by omega)
    obtain ⟨A, rfl⟩ := Int.eq_ofNat_of_zero_le (show 0 ≤ a by omega)
    have hsE : seesE (B : Int) (A : Int) l = 0 := by unfold seesE; rw [hc, hw]; rfl
    have hsr := sees_repeats (b := B) (a := A) (l := l) (by omega) (by omega) hwv.1
    have hg1 : Nat.gcd (Nat.gcd B A) l.length ≤ l.length := Nat.gcd_le_right _ hwv.1
    have hg0 : 0 < Nat.gcd (Nat.gcd B A) l.length := Nat.gcd_pos_of_pos_right _ hwv.1
    have hg2 : Nat.gcd B A ≤ 32 := Nat.le_trans (Nat.gcd_le_left _ (by omega)) (by omega)
    repeat first | refine lwp_seq fun K hK => ?_ | ((with_reducible refine thenS_normal ?_); apply_assumption -exfalso -symm) | refine thenS_exit ?_ | refine thenS_ret ?_ | refine inBlockS_normal ?_ | refine inBlockS_ret ?_ | refine inBlockS_hit rfl ?_ | refine inBlockS_miss rfl ?_ | refine lwp_block ?_ | refine lwp_skip ?_ | refine lwp_exit ?_ | refine lwp_ret ?_ | refine lwp_label ?_ | refine lwp_region hC ⟨[], [], []⟩ (told0 _ _) rfl True.intro ?_
    (refine lwp_drawn hC (by rw [hP]; exact mixed) ⟨[], [], [(2, Ints_i l [(0, some 1)]), (3, PSees_i (B : Int) (A : Int) l [(0, some 4)])]⟩ (told1 _ (by rw [hP]; exact (calls_cons (Ints_s _ _ (by omega)) (calls_cons (PSees_s _ _ _ _ (by omega)) calls_nil)))) [0, 0, 2, 7, 15, 31, 31, 63, 255] 8 rfl ?_ ?_; rotate_left 1)
    · rw [if_pos hsE, hsE]
      repeat first | refine lwp_seq fun K hK => ?_ | ((with_reducible refine thenS_normal ?_); apply_assumption -exfalso -symm) | refine thenS_exit ?_ | refine thenS_ret ?_ | refine inBlockS_normal ?_ | refine inBlockS_ret ?_ | refine inBlockS_hit rfl ?_ | refine inBlockS_miss rfl ?_ | refine lwp_block ?_ | refine lwp_skip ?_ | refine lwp_exit ?_ | refine lwp_ret ?_ | refine lwp_label ?_ | refine lwp_region hC ⟨[], [], []⟩ (told0 _ _) rfl True.intro ?_
      (refine lwp_region hC ⟨[], [], [(4, Divisor_i B A), (7, Divisor_i (Nat.gcd B A) l.length)]⟩ (told1 _ (by rw [hP]; exact (calls_cons (Divisor_s _ _ (by omega) (by omega)) (calls_cons (Divisor_s _ _ (by omega) (by omega)) calls_nil)))) rfl ?_ ?_; rotate_left 1)
      · generalize hgg : Nat.gcd (Nat.gcd B A) l.length = g at *
        repeat first | refine lwp_seq fun K hK => ?_ | ((with_reducible refine thenS_normal ?_); apply_assumption -exfalso -symm) | refine thenS_exit ?_ | refine thenS_ret ?_ | refine inBlockS_normal ?_ | refine inBlockS_ret ?_ | refine inBlockS_hit rfl ?_ | refine inBlockS_miss rfl ?_ | refine lwp_block ?_ | refine lwp_skip ?_ | refine lwp_exit ?_ | refine lwp_ret ?_ | refine lwp_label ?_ | refine lwp_region hC ⟨[], [], []⟩ (told0 _ _) rfl True.intro ?_
        refine lwp_loop (fun k : Nat => ⟨[(76, i64 k), (75, i64 l.length), (10, bl (perK l g k)), (9, i64 g), (8, i64 0), (7, bl (seesS (B : Int) (A : Int) l)), (4, .ptr 3 0 0 0), (3, .ptr 2 0 0 0), (2, .sl 1 l.length)], [(0, powC), (1, .ro l.length 1 (.ints .i64 l)), (2, .blk 23 [i64 B, i64 A]), (3, .blk 23 [i64 d, i64 e])], 4⟩) (fun k => k ≤ l.length) (fun k => l.length - k) 0 ⟨?_, sub_intro hm [(0, some 0), (1, some 1), (2, some 2), (3, some 3)] rfl ?_⟩ ?_
        · exact Nat.zero_le _
        · (simp only [AllL, All, cd_p, cp_p, cv_p, InK]; (repeat' (first | refine And.intro ?_ ?_ | intro _)) <;> first | omega | exact True.intro | rfl)
        rintro k hk
        have hkk : ((k : Int)).toNat = k := Int.toNat_natCast k
        have HPS := Lib.hid (perK_succ l g k)
        have r1 : (k : Int).tmod (g : Int) = ((k % g : Nat) : Int) := (Int.ofNat_tmod k g).symm
        have r2 : k % g < g := Nat.mod_lt _ hg0
        repeat first | refine lwp_seq fun K hK => ?_ | ((with_reducible refine thenS_normal ?_); apply_assumption -exfalso -symm) | refine thenS_exit ?_ | refine thenS_ret ?_ | refine inBlockS_normal ?_ | refine inBlockS_ret ?_ | refine inBlockS_hit rfl ?_ | refine inBlockS_miss rfl ?_ | refine lwp_block ?_ | refine lwp_skip ?_ | refine lwp_exit ?_ | refine lwp_ret ?_ | refine lwp_label ?_ | refine lwp_region hC ⟨[], [], []⟩ (told0 _ _) rfl True.intro ?_
        (refine lwp_cond hC rfl (by first | exact True.intro | ((try simp only [AllL, All, cd_p, cp_p, cv_p, InK, and_true, true_and]); all_goals ((repeat' (first | refine And.intro ?_ ?_ | intro _)) <;> first | omega | exact True.intro | assumption | (simp; done) | rfl | (simp_all; done) | (simp_all; omega)))) (fun hb => ?_) (fun hb => ?_) <;> (try simp only [decide_eq_true_eq, decide_eq_false_iff_not, Bool.not_eq_true', Bool.not_eq_false', ne_eq, Decidable.not_not] at hb))
        · have hk2 : k < l.length := by omega
          clear hb
          repeat first | refine lwp_seq fun K hK => ?_ | ((with_reducible refine thenS_normal ?_); apply_assumption -exfalso -symm) | refine thenS_exit ?_ | refine thenS_ret ?_ | refine inBlockS_normal ?_ | refine inBlockS_ret ?_ | refine inBlockS_hit rfl ?_ | refine inBlockS_miss rfl ?_ | refine lwp_block ?_ | refine lwp_skip ?_ | refine lwp_exit ?_ | refine lwp_ret ?_ | refine lwp_label ?_ | refine lwp_region hC ⟨[], [], []⟩ (told0 _ _) rfl True.intro ?_
          (refine lwp_drawn hC (by rw [hP]; exact mixed) ⟨[], [], []⟩ (told0 _ _) [0, 1, 3, 3, 15, 31, 3, 3, 3, 387, 963, 1987, 4095, 8191, 16383] 12 rfl ?_ ?_; rotate_left 1)
          · repeat first | refine lwp_seq fun K hK => ?_ | ((with_reducible refine thenS_normal ?_); apply_assumption -exfalso -symm) | refine thenS_exit ?_ | refine thenS_ret ?_ | refine inBlockS_normal ?_ | refine inBlockS_ret ?_ | refine inBlockS_hit rfl ?_ | refine inBlockS_miss rfl ?_ | refine lwp_block ?_ | refine lwp_skip ?_ | refine lwp_exit ?_ | refine lwp_ret ?_ | refine lwp_label ?_ | refine lwp_region hC ⟨[], [], []⟩ (told0 _ _) rfl True.intro ?_ | refine lwp_region hC ⟨[], [], []⟩ (told0 _ _) rfl (by (simp only [AllL, All, cd_p, cp_p, cv_p, InK]; (repeat' (first | refine And.intro ?_ ?_ | intro _)) <;> first | omega | exact True.intro | rfl)) ?_
            refine thenS_normal ⟨k + 1, ?_, ?_, sub_intro hm [(0, some 0), (1, some 1), (2, some 2), (3, some 3)] rfl ?_⟩
            · omega
            · omega
            · rw [HPS.out]
              simp only [All, cd_p, cp_p, cv_p, hkk, r1, Int.toNat_natCast, bif_and]
              (repeat' refine And.intro ?_ ?_) <;> first | exact True.intro | rfl | omega
          · simp only [AllL, All, cd_p, cp_p, cv_p, InK, hkk, r1, Int.toNat_natCast]
            (repeat' (first | refine And.intro ?_ ?_ | intro _)) <;> first | omega | exact True.intro | rfl
        obtain rfl : k = l.length := by omega
        clear hb
        rw [perK_all, hsr]
        repeat first | refine lwp_seq fun K hK => ?_ | ((with_reducible refine thenS_normal ?_); apply_assumption -exfalso -symm) | refine thenS_exit ?_ | refine thenS_ret ?_ | refine inBlockS_normal ?_ | refine inBlockS_ret ?_ | refine inBlockS_hit rfl ?_ | refine inBlockS_miss rfl ?_ | refine lwp_block ?_ | refine lwp_skip ?_ | refine lwp_exit ?_ | refine lwp_ret ?_ | refine lwp_label ?_ | refine lwp_region hC ⟨[], [], []⟩ (told0 _ _) rfl True.intro ?_ | refine lwp_region hC ⟨[], [], []⟩ (told0 _ _) rfl (by (simp only [AllL, All, cd_p, cp_p, cv_p, InK]; (repeat' (first | refine And.intro ?_ ?_ | intro _)) <;> first | omega | exact True.intro | rfl)) ?_
        (refine lwp_cond hC rfl (by first | exact True.intro | ((try simp only [AllL, All, cd_p, cp_p, cv_p, InK, and_true, true_and]); all_goals ((repeat' (first | refine And.intro ?_ ?_ | intro _)) <;> first | omega | exact True.intro | assumption | (simp; done) | rfl | (simp_all; done) | (simp_all; omega)))) (fun hb => ?_) (fun hb => ?_) <;> (try simp only [decide_eq_true_eq, decide_eq_false_iff_not, Bool.not_eq_true', Bool.not_eq_false', ne_eq, Decidable.not_not] at hb))
        · exfalso
          revert hb
          cases perB l g <;> simp
        clear hb hsr
        have hbE : bothE (B : Int) (A : Int) d e = 0 := by unfold bothE; rw [hc, hd]; rfl
        have hBl := blindS_ref hc
        have hBd := blindS_ref hd
        have hBo := bothS_ref hbE
        have hlA := refL_len (B : Int) (A : Int) (B : Int) (A : Int) 31
        have hlB := refL_len d e d e 31
        have hlC := refL_len (B : Int) (A : Int) d e 31
        have HM := Lib.hid (fun x (h : x ∈ refL (B : Int) (A : Int) (B : Int) (A : Int) 31) => refL_mem.1 h)
        have HSH := Lib.hid (shared_eq (B : Int) (A : Int) d e)
        have HPO := Lib.hid (blind_pos (b := B) (a := A) (by omega) (by omega) (by omega))
        repeat first | refine lwp_seq fun K hK => ?_ | ((with_reducible refine thenS_normal ?_); apply_assumption -exfalso -symm) | refine thenS_exit ?_ | refine thenS_ret ?_ | refine inBlockS_normal ?_ | refine inBlockS_ret ?_ | refine inBlockS_hit rfl ?_ | refine inBlockS_miss rfl ?_ | refine lwp_block ?_ | refine lwp_skip ?_ | refine lwp_exit ?_ | refine lwp_ret ?_ | refine lwp_label ?_ | refine lwp_region hC ⟨[], [], []⟩ (told0 _ _) rfl True.intro ?_
        (refine lwp_region hC ⟨[], [], [(1, PBlind_i (B : Int) (A : Int))]⟩ (told1 _ (by rw [hP]; exact (calls_cons (PBlind_s _ _) calls_nil))) rfl ?_ ?_; rotate_left 1)
        · rw [hBl, hc]
          repeat first | refine lwp_seq fun K hK => ?_ | ((with_reducible refine thenS_normal ?_); apply_assumption -exfalso -symm) | refine thenS_exit ?_ | refine thenS_ret ?_ | refine inBlockS_normal ?_ | refine inBlockS_ret ?_ | refine inBlockS_hit rfl ?_ | refine inBlockS_miss rfl ?_ | refine lwp_block ?_ | refine lwp_skip ?_ | refine lwp_exit ?_ | refine lwp_ret ?_ | refine lwp_label ?_ | refine lwp_region hC ⟨[], [], []⟩ (told0 _ _) rfl True.intro ?_
          (refine lwp_region hC ⟨[], [], [(1, PBlind_i d e)]⟩ (told1 _ (by rw [hP]; exact (calls_cons (PBlind_s _ _) calls_nil))) rfl ?_ ?_; rotate_left 1)
          · rw [hBd, hd]
            repeat first | refine lwp_seq fun K hK => ?_ | ((with_reducible refine thenS_normal ?_); apply_assumption -exfalso -symm) | refine thenS_exit ?_ | refine thenS_ret ?_ | refine inBlockS_normal ?_ | refine inBlockS_ret ?_ | refine inBlockS_hit rfl ?_ | refine inBlockS_miss rfl ?_ | refine lwp_block ?_ | refine lwp_skip ?_ | refine lwp_exit ?_ | refine lwp_ret ?_ | refine lwp_label ?_ | refine lwp_region hC ⟨[], [], []⟩ (told0 _ _) rfl True.intro ?_
            (refine lwp_region hC ⟨[], [], [(2, PBoth_i (B : Int) (A : Int) d e)]⟩ (told1 _ (by rw [hP]; exact (calls_cons (PBoth_s _ _ _ _) calls_nil))) rfl ?_ ?_; rotate_left 1)
            · rw [hBo, hbE]
              clear hBl hBd hBo
              generalize refL (B : Int) (A : Int) (B : Int) (A : Int) 31 = LA at *
              generalize refL d e d e 31 = LB at *
              generalize refL (B : Int) (A : Int) d e 31 = LC at *
              repeat first | refine lwp_seq fun K hK => ?_ | ((with_reducible refine thenS_normal ?_); apply_assumption -exfalso -symm) | refine thenS_exit ?_ | refine thenS_ret ?_ | refine inBlockS_normal ?_ | refine inBlockS_ret ?_ | refine inBlockS_hit rfl ?_ | refine inBlockS_miss rfl ?_ | refine lwp_block ?_ | refine lwp_skip ?_ | refine lwp_exit ?_ | refine lwp_ret ?_ | refine lwp_label ?_ | refine lwp_region hC ⟨[], [], []⟩ (told0 _ _) rfl True.intro ?_ | refine lwp_region hC ⟨[], [], []⟩ (told0 _ _) rfl (by (simp only [AllL, All, cd_p, cp_p, cv_p, InK]; (repeat' (first | refine And.intro ?_ ?_ | intro _)) <;> first | omega | exact True.intro | rfl)) ?_
              (refine lwp_cond hC rfl (by first | exact True.intro | ((try simp only [AllL, All, cd_p, cp_p, cv_p, InK, and_true, true_and]); all_goals ((repeat' (first | refine And.intro ?_ ?_ | intro _)) <;> first | omega | exact True.intro | assumption | (simp; done) | rfl | (simp_all; done) | (simp_all; omega)))) (fun hb => ?_) (fun hb => ?_) <;> (try simp only [decide_eq_true_eq, decide_eq_false_iff_not, Bool.not_eq_true', Bool.not_eq_false', ne_eq, Decidable.not_not] at hb))
              · exfalso
                simp at hb
                omega
              clear hb
              repeat first | refine lwp_seq fun K hK => ?_ | ((with_reducible refine thenS_normal ?_); apply_assumption -exfalso -symm) | refine thenS_exit ?_ | refine thenS_ret ?_ | refine inBlockS_normal ?_ | refine inBlockS_ret ?_ | refine inBlockS_hit rfl ?_ | refine inBlockS_miss rfl ?_ | refine lwp_block ?_ | refine lwp_skip ?_ | refine lwp_exit ?_ | refine lwp_ret ?_ | refine lwp_label ?_ | refine lwp_region hC ⟨[], [], []⟩ (told0 _ _) rfl True.intro ?_
              refine lwp_loop (fun k : Nat => ⟨[(130, i64 k), (129, i64 LA.length), (128, .sl 4 LA.length), (18, .sl 7 ((LA.take k).filter (hasB LB)).length), (16, .sl 6 LC.length), (14, .sl 5 LB.length), (12, .sl 4 LA.length), (4, .ptr 3 0 0 0), (3, .ptr 2 0 0 0), (2, .sl 1 l.length)], [(0, powC), (1, .ro l.length 1 (.ints .i64 l)), (2, .blk 23 [i64 B, i64 A]), (3, .blk 23 [i64 d, i64 e]), (4, .row 3 LA.length 1 (.ints .i64 LA)), (5, .row 3 LB.length 1 (.ints .i64 LB)), (6, .row 3 LC.length 1 (.ints .i64 LC)), (7, .row 3 ((LA.take k).filter (hasB LB)).length 1 (.ints .i64 ((LA.take k).filter (hasB LB))))], 8⟩) (fun k => k ≤ LA.length) (fun k => LA.length - k) 0 ⟨?_, sub_intro hm [(0, some 0), (1, some 1), (2, some 2), (3, some 3), (4, some 4), (5, some 5), (6, some 6), (7, none)] rfl ?_⟩ ?_
              · exact Nat.zero_le _
              · (simp only [AllL, All, cd_p, cp_p, cv_p, InK]; (repeat' (first | refine And.intro ?_ ?_ | intro _)) <;> first | omega | exact True.intro | rfl)
              rintro k hk
              have hkk : ((k : Int)).toNat = k := Int.toNat_natCast k
              have hlf : ((LA.take k).filter (hasB LB)).length ≤ 31 := Nat.le_trans (List.length_filter_le _ _) (by rw [List.length_take]; omega)
              repeat first | refine lwp_seq fun K hK => ?_ | ((with_reducible refine thenS_normal ?_); apply_assumption -exfalso -symm) | refine thenS_exit ?_ | refine thenS_ret ?_ | refine inBlockS_normal ?_ | refine inBlockS_ret ?_ | refine inBlockS_hit rfl ?_ | refine inBlockS_miss rfl ?_ | refine lwp_block ?_ | refine lwp_skip ?_ | refine lwp_exit ?_ | refine lwp_ret ?_ | refine lwp_label ?_ | refine lwp_region hC ⟨[], [], []⟩ (told0 _ _) rfl True.intro ?_
              (refine lwp_cond hC rfl (by first | exact True.intro | ((try simp only [AllL, All, cd_p, cp_p, cv_p, InK, and_true, true_and]); all_goals ((repeat' (first | refine And.intro ?_ ?_ | intro _)) <;> first | omega | exact True.intro | assumption | (simp; done) | rfl | (simp_all; done) | (simp_all; omega)))) (fun hb => ?_) (fun hb => ?_) <;> (try simp only [decide_eq_true_eq, decide_eq_false_iff_not, Bool.not_eq_true', Bool.not_eq_false', ne_eq, Decidable.not_not] at hb))
              · have hk2 : k < LA.length := by omega
                clear hb
                have hmem : LA.getD (k : Int).toNat 0 ∈ LA := by
                  rw [hkk, List.getD_eq_getElem?_getD, List.getElem?_eq_getElem hk2]; exact List.getElem_mem hk2
                have hx := HM.out _ hmem
                rw [divAll_iff] at hx
                obtain ⟨⟨x0, x1⟩, x2, x3, _⟩ := hx
                have hsk : (LA.take (k + 1)).filter (hasB LB) = (LA.take k).filter (hasB LB) ++ (if hasB LB (LA.getD (k : Int).toNat 0) then [LA.getD (k : Int).toNat 0] else []) := by rw [hkk]; exact filter_take_succ _ hk2
                have HSK := Lib.hid hsk
                clear hsk hmem
                repeat first | refine lwp_seq fun K hK => ?_ | ((with_reducible refine thenS_normal ?_); apply_assumption -exfalso -symm) | refine thenS_exit ?_ | refine thenS_ret ?_ | refine inBlockS_normal ?_ | refine inBlockS_ret ?_ | refine inBlockS_hit rfl ?_ | refine inBlockS_miss rfl ?_ | refine lwp_block ?_ | refine lwp_skip ?_ | refine lwp_exit ?_ | refine lwp_ret ?_ | refine lwp_label ?_ | refine lwp_region hC ⟨[], [], []⟩ (told0 _ _) rfl True.intro ?_ | refine lwp_region hC ⟨[], [], []⟩ (told0 _ _) rfl (by ((try simp only [AllL, All, cd_p, cp_p, cv_p, InK, and_true, true_and]); all_goals ((repeat' (first | refine And.intro ?_ ?_ | intro _)) <;> first | omega | exact True.intro | assumption | (simp; done) | rfl | (simp_all; done) | (simp_all; omega)))) ?_
                (refine lwp_cond hC rfl (by first | exact True.intro | ((try simp only [AllL, All, cd_p, cp_p, cv_p, InK, and_true, true_and]); all_goals ((repeat' (first | refine And.intro ?_ ?_ | intro _)) <;> first | omega | exact True.intro | assumption | (simp; done) | rfl | (simp_all; done) | (simp_all; omega)))) (fun hb => ?_) (fun hb => ?_) <;> (try simp only [decide_eq_true_eq, decide_eq_false_iff_not, Bool.not_eq_true', Bool.not_eq_false', ne_eq, Decidable.not_not] at hb))
                · exfalso
                  simp only [x2, x3] at hb
                  revert hb
                  have : decide (LA.getD (k : Int).toNat 0 < 2) = false := decide_eq_false (by omega)
                  rw [this]
                  simp
                clear hb
                repeat first | refine lwp_seq fun K hK => ?_ | ((with_reducible refine thenS_normal ?_); apply_assumption -exfalso -symm) | refine thenS_exit ?_ | refine thenS_ret ?_ | refine inBlockS_normal ?_ | refine inBlockS_ret ?_ | refine inBlockS_hit rfl ?_ | refine inBlockS_miss rfl ?_ | refine lwp_block ?_ | refine lwp_skip ?_ | refine lwp_exit ?_ | refine lwp_ret ?_ | refine lwp_label ?_ | refine lwp_region hC ⟨[], [], []⟩ (told0 _ _) rfl True.intro ?_
                (refine lwp_region hC ⟨[], [], [(2, HasInt_i LB (LA.getD (k : Int).toNat 0) [(0, some 5)])]⟩ (told1 _ (by rw [hP]; exact (calls_cons (HasInt_s _ _ _ (by omega)) calls_nil))) rfl ?_ ?_; rotate_left 1)
                · repeat first | refine lwp_seq fun K hK => ?_ | ((with_reducible refine thenS_normal ?_); apply_assumption -exfalso -symm) | refine thenS_exit ?_ | refine thenS_ret ?_ | refine inBlockS_normal ?_ | refine inBlockS_ret ?_ | refine inBlockS_hit rfl ?_ | refine inBlockS_miss rfl ?_ | refine lwp_block ?_ | refine lwp_skip ?_ | refine lwp_exit ?_ | refine lwp_ret ?_ | refine lwp_label ?_ | refine lwp_region hC ⟨[], [], []⟩ (told0 _ _) rfl True.intro ?_
                  (refine lwp_cond hC rfl (by first | exact True.intro | ((try simp only [AllL, All, cd_p, cp_p, cv_p, InK, and_true, true_and]); all_goals ((repeat' (first | refine And.intro ?_ ?_ | intro _)) <;> first | omega | exact True.intro | assumption | (simp; done) | rfl | (simp_all; done) | (simp_all; omega)))) (fun hb => ?_) (fun hb => ?_) <;> (try simp only [decide_eq_true_eq, decide_eq_false_iff_not, Bool.not_eq_true', Bool.not_eq_false', ne_eq, Decidable.not_not] at hb))
                  · have hsk := HSK.out
                    rw [if_pos hb] at hsk
                    have HS2 := Lib.hid hsk
                    clear hsk HSK
                    repeat first | refine lwp_seq fun K hK => ?_ | ((with_reducible refine thenS_normal ?_); apply_assumption -exfalso -symm) | refine thenS_exit ?_ | refine thenS_ret ?_ | refine inBlockS_normal ?_ | refine inBlockS_ret ?_ | refine inBlockS_hit rfl ?_ | refine inBlockS_miss rfl ?_ | refine lwp_block ?_ | refine lwp_skip ?_ | refine lwp_exit ?_ | refine lwp_ret ?_ | refine lwp_label ?_ | refine lwp_region hC ⟨[], [], []⟩ (told0 _ _) rfl True.intro ?_ | refine lwp_region hC ⟨[], [], []⟩ (told0 _ _) rfl (by (simp only [AllL, All, cd_p, cp_p, cv_p, InK]; (repeat' (first | refine And.intro ?_ ?_ | intro _)) <;> first | omega | exact True.intro | rfl)) ?_
                    refine thenS_normal ⟨k + 1, ?_, ?_, sub_intro hm [(0, some 0), (1, some 1), (2, some 2), (3, some 3), (4, some 4), (5, some 5), (6, some 6), (7, some 9)] rfl ?_⟩
                    · omega
                    · omega
                    · rw [HS2.out]; ((try simp only [AllL, All, cd_p, cp_p, cv_p, InK, and_true, true_and]); all_goals ((repeat' (first | refine And.intro ?_ ?_ | intro _)) <;> first | omega | exact True.intro | assumption | (simp; done) | rfl | (simp_all; done) | (simp_all; omega)))
                  · have hsk := HSK.out
                    rw [if_neg (by rw [hb]; decide), List.append_nil] at hsk
                    have HS2 := Lib.hid hsk
                    clear hsk HSK
                    repeat first | refine lwp_seq fun K hK => ?_ | ((with_reducible refine thenS_normal ?_); apply_assumption -exfalso -symm) | refine thenS_exit ?_ | refine thenS_ret ?_ | refine inBlockS_normal ?_ | refine inBlockS_ret ?_ | refine inBlockS_hit rfl ?_ | refine inBlockS_miss rfl ?_ | refine lwp_block ?_ | refine lwp_skip ?_ | refine lwp_exit ?_ | refine lwp_ret ?_ | refine lwp_label ?_ | refine lwp_region hC ⟨[], [], []⟩ (told0 _ _) rfl True.intro ?_ | refine lwp_region hC ⟨[], [], []⟩ (told0 _ _) rfl (by (simp only [AllL, All, cd_p, cp_p, cv_p, InK]; (repeat' (first | refine And.intro ?_ ?_ | intro _)) <;> first | omega | exact True.intro | rfl)) ?_
                    refine thenS_normal ⟨k + 1, ?_, ?_, sub_intro hm [(0, some 0), (1, some 1), (2, some 2), (3, some 3), (4, some 4), (5, some 5), (6, some 6), (7, some 7)] rfl ?_⟩
                    · omega
                    · omega
                    · rw [HS2.out]; ((try simp only [AllL, All, cd_p, cp_p, cv_p, InK, and_true, true_and]); all_goals ((repeat' (first | refine And.intro ?_ ?_ | intro _)) <;> first | omega | exact True.intro | assumption | (simp; done) | rfl | (simp_all; done) | (simp_all; omega)))
                · (simp only [AllL, All, cd_p, cp_p, cv_p, InK]; (repeat' (first | refine And.intro ?_ ?_ | intro _)) <;> first | omega | exact True.intro | rfl)
              obtain rfl : k = LA.length := by omega
              clear hb
              rw [List.take_length, HSH.out]
              repeat first | refine lwp_seq fun K hK => ?_ | ((with_reducible refine thenS_normal ?_); apply_assumption -exfalso -symm) | refine thenS_exit ?_ | refine thenS_ret ?_ | refine inBlockS_normal ?_ | refine inBlockS_ret ?_ | refine inBlockS_hit rfl ?_ | refine inBlockS_miss rfl ?_ | refine lwp_block ?_ | refine lwp_skip ?_ | refine lwp_exit ?_ | refine lwp_ret ?_ | refine lwp_label ?_ | refine lwp_region hC ⟨[], [], []⟩ (told0 _ _) rfl True.intro ?_
              (refine lwp_region hC ⟨[(4, { b := some false })], [], [(2, SameInts_i LC LC [(0, some 6), (1, some 7)]), (9, Divisor_i B A)]⟩ (told1 _ (by rw [hP]; exact (calls_cons (SameInts_s _ _ _ (by omega)) (calls_cons (Divisor_s _ _ (by omega) (by omega)) calls_nil)))) rfl ?_ ?_; rotate_left 1)
              · repeat first | refine lwp_seq fun K hK => ?_ | ((with_reducible refine thenS_normal ?_); apply_assumption -exfalso -symm) | refine thenS_exit ?_ | refine thenS_ret ?_ | refine inBlockS_normal ?_ | refine inBlockS_ret ?_ | refine inBlockS_hit rfl ?_ | refine inBlockS_miss rfl ?_ | refine lwp_block ?_ | refine lwp_skip ?_ | refine lwp_exit ?_ | refine lwp_ret ?_ | refine lwp_label ?_ | refine lwp_region hC ⟨[], [], []⟩ (told0 _ _) rfl True.intro ?_
                (refine lwp_cond hC rfl (by first | exact True.intro | ((try simp only [AllL, All, cd_p, cp_p, cv_p, InK, and_true, true_and]); all_goals ((repeat' (first | refine And.intro ?_ ?_ | intro _)) <;> first | omega | exact True.intro | assumption | (simp; done) | rfl | (simp_all; done) | (simp_all; omega)))) (fun hb => ?_) (fun hb => ?_) <;> (try simp only [decide_eq_true_eq, decide_eq_false_iff_not, Bool.not_eq_true', Bool.not_eq_false', ne_eq, Decidable.not_not] at hb))
                · exfalso
                  rw [HPO.out] at hb
                  simp at hb
                clear hb HM HSH HPO
                repeat first | refine lwp_seq fun K hK => ?_ | ((with_reducible refine thenS_normal ?_); apply_assumption -exfalso -symm) | refine thenS_exit ?_ | refine thenS_ret ?_ | refine inBlockS_normal ?_ | refine inBlockS_ret ?_ | refine inBlockS_hit rfl ?_ | refine inBlockS_miss rfl ?_ | refine lwp_block ?_ | refine lwp_skip ?_ | refine lwp_exit ?_ | refine lwp_ret ?_ | refine lwp_label ?_
                have hct : chordS (A : Int) (B : Int) = 0 := by
                  unfold chordS
                  rw [firstS_eq]
                  intro x hx
                  simp only [List.mem_cons, List.not_mem_nil, or_false] at hx
                  rcases hx with rfl | rfl <;> rw [withinS_eq] <;> omega
                obtain ⟨F0, G0, F1, G1, F2, G2, F3, G3, hF, ⟨f0, g0⟩, ⟨f1, g1⟩, ⟨f2, g2⟩, ⟨f3, g3⟩⟩ := trf_is hc
                obtain ⟨E0, H0, E1, H1, E2, H2, E3, H3, hE, ⟨e0, h0⟩, ⟨e1, h1⟩, ⟨e2, h2⟩, ⟨e3, h3⟩⟩ := trf_is hct
                rw [tR_turned, ← f0] at e0
                rw [tR_turned, ← f1] at e1
                rw [tR_turned, ← f2] at e2
                rw [tR_turned, ← f3] at e3
                rw [tI_turned] at h0 h1 h2 h3
                subst e0 e1 e2 e3
                obtain ⟨P0, Q0, P1, Q1, P2, Q2, P3, Q3, hPP, ⟨p0, q0⟩, ⟨p1, q1⟩, ⟨p2, q2⟩, ⟨p3, q3⟩⟩ := pan_is (panT l).1 (panT l).2
                obtain ⟨R0, S0, R1, S1, R2, S2, R3, S3, hR, ⟨u0, v0⟩, ⟨u1, v1⟩, ⟨u2, v2⟩, ⟨u3, v3⟩⟩ := pan_is (panV l hco.1.1 hco.1.2 hco.2.1 hco.2.2).1 (panV l hco.1.1 hco.1.2 hco.2.1 hco.2.2).2
                have K0 := Lib.hid (And.intro f0 (And.intro g0 (And.intro h0 (And.intro p0 (And.intro q0 (And.intro u0 v0))))))
                have K1 := Lib.hid (And.intro f1 (And.intro g1 (And.intro h1 (And.intro p1 (And.intro q1 (And.intro u1 v1))))))
                have K2 := Lib.hid (And.intro f2 (And.intro g2 (And.intro h2 (And.intro p2 (And.intro q2 (And.intro u2 v2))))))
                have K3 := Lib.hid (And.intro f3 (And.intro g3 (And.intro h3 (And.intro p3 (And.intro q3 (And.intro u3 v3))))))
                clear f0 f1 f2 f3 g0 g1 g2 g3 h0 h1 h2 h3 p0 p1 p2 p3 q0 q1 q2 q3 u0 u1 u2 u3 v0 v1 v2 v3
                repeat first | refine lwp_seq fun K hK => ?_ | ((with_reducible refine thenS_normal ?_); apply_assumption -exfalso -symm) | refine thenS_exit ?_ | refine thenS_ret ?_ | refine inBlockS_normal ?_ | refine inBlockS_ret ?_ | refine inBlockS_hit rfl ?_ | refine inBlockS_miss rfl ?_ | refine lwp_block ?_ | refine lwp_skip ?_ | refine lwp_exit ?_ | refine lwp_ret ?_ | refine lwp_label ?_
                (refine lwp_region hC ⟨[], [], [(1, TrF_i (B : Int) (A : Int) E0 G0 E1 G1 E2 G2 E3 G3 [(0, some 0)])]⟩ (told1 _ (by rw [hP]; exact (calls_cons (TrF_s _ hF hc) calls_nil))) rfl ?_ ?_; rotate_left 1)
                · repeat first | refine lwp_seq fun K hK => ?_ | ((with_reducible refine thenS_normal ?_); apply_assumption -exfalso -symm) | refine thenS_exit ?_ | refine thenS_ret ?_ | refine inBlockS_normal ?_ | refine inBlockS_ret ?_ | refine inBlockS_hit rfl ?_ | refine inBlockS_miss rfl ?_ | refine lwp_block ?_ | refine lwp_skip ?_ | refine lwp_exit ?_ | refine lwp_ret ?_ | refine lwp_label ?_
                  (refine lwp_region hC ⟨[], [], [(1, BTurned_i (B : Int) (A : Int))]⟩ (told1 _ (by rw [hP]; exact (calls_cons (BTurned_s _ _ hc) calls_nil))) rfl ?_ ?_; rotate_left 1)
                  · repeat first | refine lwp_seq fun K hK => ?_ | ((with_reducible refine thenS_normal ?_); apply_assumption -exfalso -symm) | refine thenS_exit ?_ | refine thenS_ret ?_ | refine inBlockS_normal ?_ | refine inBlockS_ret ?_ | refine inBlockS_hit rfl ?_ | refine inBlockS_miss rfl ?_ | refine lwp_block ?_ | refine lwp_skip ?_ | refine lwp_exit ?_ | refine lwp_ret ?_ | refine lwp_label ?_ | refine lwp_region hC ⟨[], [], []⟩ (told0 _ _) rfl True.intro ?_ | refine lwp_region hC ⟨[], [], []⟩ (told0 _ _) rfl (by (simp only [AllL, All, cd_p, cp_p, cv_p, InK]; (repeat' (first | refine And.intro ?_ ?_ | intro _)) <;> first | omega | exact True.intro | rfl)) ?_
                    (refine lwp_cond hC rfl (by first | exact True.intro | ((try simp only [AllL, All, cd_p, cp_p, cv_p, InK, and_true, true_and]); all_goals ((repeat' (first | refine And.intro ?_ ?_ | intro _)) <;> first | omega | exact True.intro | assumption | (simp; done) | rfl | (simp_all; done) | (simp_all; omega)))) (fun hb => ?_) (fun hb => ?_) <;> (try simp only [decide_eq_true_eq, decide_eq_false_iff_not, Bool.not_eq_true', Bool.not_eq_false', ne_eq, Decidable.not_not] at hb))
                    · exfalso
                      simp at hb
                    clear hb
                    repeat first | refine lwp_seq fun K hK => ?_ | ((with_reducible refine thenS_normal ?_); apply_assumption -exfalso -symm) | refine thenS_exit ?_ | refine thenS_ret ?_ | refine inBlockS_normal ?_ | refine inBlockS_ret ?_ | refine inBlockS_hit rfl ?_ | refine inBlockS_miss rfl ?_ | refine lwp_block ?_ | refine lwp_skip ?_ | refine lwp_exit ?_ | refine lwp_ret ?_ | refine lwp_label ?_
                    (refine lwp_region hC ⟨[], [], [(1, TrF_i (A : Int) (B : Int) E0 H0 E1 H1 E2 H2 E3 H3 [(0, some 0)])]⟩ (told1 _ (by rw [hP]; exact (calls_cons (TrF_s _ hE hct) calls_nil))) rfl ?_ ?_; rotate_left 1)
                    · repeat first | refine lwp_seq fun K hK => ?_ | ((with_reducible refine thenS_normal ?_); apply_assumption -exfalso -symm) | refine thenS_exit ?_ | refine thenS_ret ?_ | refine inBlockS_normal ?_ | refine inBlockS_ret ?_ | refine inBlockS_hit rfl ?_ | refine inBlockS_miss rfl ?_ | refine lwp_block ?_ | refine lwp_skip ?_ | refine lwp_exit ?_ | refine lwp_ret ?_ | refine lwp_label ?_ | refine lwp_region hC ⟨[], [], []⟩ (told0 _ _) rfl True.intro ?_ | refine lwp_region hC ⟨[], [], []⟩ (told0 _ _) rfl (by (simp only [AllL, All, cd_p, cp_p, cv_p, InK]; (repeat' (first | refine And.intro ?_ ?_ | intro _)) <;> first | omega | exact True.intro | rfl)) ?_
                      refine lwp_loop (fun k : Nat => ⟨[(196, i64 k), (195, i64 4), (27, .sl 14 4), (26, i64 0), (25, .ptr 12 0 0 0), (21, .ptr 8 0 0 0), (3, .ptr 2 0 0 0), (2, .sl 1 l.length)], [(0, powC), (1, .ro l.length 1 (.ints .i64 l)), (2, .blk 23 [i64 B, i64 A]), (8, .blk 53 [cxA E0 G0, cxA E1 G1, cxA E2 G2, cxA E3 G3]), (12, .blk 53 [cxA E0 H0, cxA E1 H1, cxA E2 H2, cxA E3 H3]), (14, .row 3 4 1 (.ints .i64 (fourK l k)))], 15⟩) (fun k => k ≤ 4) (fun k => 4 - k) 0 ⟨?_, sub_intro hm [(0, some 0), (1, some 1), (2, some 2), (8, some 8), (12, some 12), (14, some 14)] rfl ?_⟩ ?_
                      · omega
                      · simp only [All, cd_p, cp_p, cv_p]
                        (repeat' refine And.intro ?_ ?_) <;> first | exact True.intro | rfl | omega
                      rintro k hk
                      have r1 : (k : Int).tmod (l.length : Int) = ((k % l.length : Nat) : Int) := (Int.ofNat_tmod k l.length).symm
                      have r2 : k % l.length < l.length := Nat.mod_lt _ (by omega)
                      obtain rfl | rfl | rfl | rfl | rfl : k = 0 ∨ k = 1 ∨ k = 2 ∨ k = 3 ∨ k = 4 := by omega
                      · repeat first | refine lwp_seq fun K hK => ?_ | ((with_reducible refine thenS_normal ?_); apply_assumption -exfalso -symm) | refine thenS_exit ?_ | refine thenS_ret ?_ | refine inBlockS_normal ?_ | refine inBlockS_ret ?_ | refine inBlockS_hit rfl ?_ | refine inBlockS_miss rfl ?_ | refine lwp_block ?_ | refine lwp_skip ?_ | refine lwp_exit ?_ | refine lwp_ret ?_ | refine lwp_label ?_ | refine lwp_region hC ⟨[], [], []⟩ (told0 _ _) rfl True.intro ?_
                        (refine lwp_cond hC rfl (by first | exact True.intro | ((try simp only [AllL, All, cd_p, cp_p, cv_p, InK, and_true, true_and]); all_goals ((repeat' (first | refine And.intro ?_ ?_ | intro _)) <;> first | omega | exact True.intro | assumption | (simp; done) | rfl | (simp_all; done) | (simp_all; omega)))) (fun hb => ?_) (fun hb => ?_) <;> (try simp only [decide_eq_true_eq, decide_eq_false_iff_not, Bool.not_eq_true', Bool.not_eq_false', ne_eq, Decidable.not_not] at hb))
                        · clear hb
                          repeat first | refine lwp_seq fun K hK => ?_ | ((with_reducible refine thenS_normal ?_); apply_assumption -exfalso -symm) | refine thenS_exit ?_ | refine thenS_ret ?_ | refine inBlockS_normal ?_ | refine inBlockS_ret ?_ | refine inBlockS_hit rfl ?_ | refine inBlockS_miss rfl ?_ | refine lwp_block ?_ | refine lwp_skip ?_ | refine lwp_exit ?_ | refine lwp_ret ?_ | refine lwp_label ?_ | refine lwp_region hC ⟨[], [], []⟩ (told0 _ _) rfl True.intro ?_
                          (refine lwp_region hC ⟨[], [], []⟩ (told0 _ _) rfl ?_ ?_; rotate_left 1)
                          · repeat first | refine lwp_seq fun K hK => ?_ | ((with_reducible refine thenS_normal ?_); apply_assumption -exfalso -symm) | refine thenS_exit ?_ | refine thenS_ret ?_ | refine inBlockS_normal ?_ | refine inBlockS_ret ?_ | refine inBlockS_hit rfl ?_ | refine inBlockS_miss rfl ?_ | refine lwp_block ?_ | refine lwp_skip ?_ | refine lwp_exit ?_ | refine lwp_ret ?_ | refine lwp_label ?_ | refine lwp_region hC ⟨[], [], []⟩ (told0 _ _) rfl True.intro ?_ | refine lwp_region hC ⟨[], [], []⟩ (told0 _ _) rfl (by (simp only [AllL, All, cd_p, cp_p, cv_p, InK]; (repeat' (first | refine And.intro ?_ ?_ | intro _)) <;> first | omega | exact True.intro | rfl)) ?_
                            refine thenS_normal ⟨1, ?_, ?_, sub_intro hm [(0, some 0), (1, some 1), (2, some 2), (8, some 8), (12, some 12), (14, some 14)] rfl ?_⟩
                            · omega
                            · omega
                            · simp only [All, cd_p, cp_p, cv_p, r1, Int.toNat_natCast]
                              (repeat' refine And.intro ?_ ?_) <;> first | exact True.intro | rfl | omega
                          · simp only [AllL, All, cd_p, cp_p, cv_p, InK, r1, Int.toNat_natCast, fourK_len]
                            (repeat' (first | refine And.intro ?_ ?_ | intro _)) <;> first | omega | exact True.intro | rfl
                        · omega
                      · repeat first | refine lwp_seq fun K hK => ?_ | ((with_reducible refine thenS_normal ?_); apply_assumption -exfalso -symm) | refine thenS_exit ?_ | refine thenS_ret ?_ | refine inBlockS_normal ?_ | refine inBlockS_ret ?_ | refine inBlockS_hit rfl ?_ | refine inBlockS_miss rfl ?_ | refine lwp_block ?_ | refine lwp_skip ?_ | refine lwp_exit ?_ | refine lwp_ret ?_ | refine lwp_label ?_ | refine lwp_region hC ⟨[], [], []⟩ (told0 _ _) rfl True.intro ?_
                        (refine lwp_cond hC rfl (by first | exact True.intro | ((try simp only [AllL, All, cd_p, cp_p, cv_p, InK, and_true, true_and]); all_goals ((repeat' (first | refine And.intro ?_ ?_ | intro _)) <;> first | omega | exact True.intro | assumption | (simp; done) | rfl | (simp_all; done) | (simp_all; omega)))) (fun hb => ?_) (fun hb => ?_) <;> (try simp only [decide_eq_true_eq, decide_eq_false_iff_not, Bool.not_eq_true', Bool.not_eq_false', ne_eq, Decidable.not_not] at hb))
                        · clear hb
                          repeat first | refine lwp_seq fun K hK => ?_ | ((with_reducible refine thenS_normal ?_); apply_assumption -exfalso -symm) | refine thenS_exit ?_ | refine thenS_ret ?_ | refine inBlockS_normal ?_ | refine inBlockS_ret ?_ | refine inBlockS_hit rfl ?_ | refine inBlockS_miss rfl ?_ | refine lwp_block ?_ | refine lwp_skip ?_ | refine lwp_exit ?_ | refine lwp_ret ?_ | refine lwp_label ?_ | refine lwp_region hC ⟨[], [], []⟩ (told0 _ _) rfl True.intro ?_
                          (refine lwp_region hC ⟨[], [], []⟩ (told0 _ _) rfl ?_ ?_; rotate_left 1)
                          · repeat first | refine lwp_seq fun K hK => ?_ | ((with_reducible refine thenS_normal ?_); apply_assumption -exfalso -symm) | refine thenS_exit ?_ | refine thenS_ret ?_ | refine inBlockS_normal ?_ | refine inBlockS_ret ?_ | refine inBlockS_hit rfl ?_ | refine inBlockS_miss rfl ?_ | refine lwp_block ?_ | refine lwp_skip ?_ | refine lwp_exit ?_ | refine lwp_ret ?_ | refine lwp_label ?_ | refine lwp_region hC ⟨[], [], []⟩ (told0 _ _) rfl True.intro ?_ | refine lwp_region hC ⟨[], [], []⟩ (told0 _ _) rfl (by (simp only [AllL, All, cd_p, cp_p, cv_p, InK]; (repeat' (first | refine And.intro ?_ ?_ | intro _)) <;> first | omega | exact True.intro | rfl)) ?_
                            refine thenS_normal ⟨2, ?_, ?_, sub_intro hm [(0, some 0), (1, some 1), (2, some 2), (8, some 8), (12, some 12), (14, some 14)] rfl ?_⟩
                            · omega
                            · omega
                            · simp only [All, cd_p, cp_p, cv_p, r1, Int.toNat_natCast]
                              (repeat' refine And.intro ?_ ?_) <;> first | exact True.intro | rfl | omega
                          · simp only [AllL, All, cd_p, cp_p, cv_p, InK, r1, Int.toNat_natCast, fourK_len]
                            (repeat' (first | refine And.intro ?_ ?_ | intro _)) <;> first | omega | exact True.intro | rfl
                        · omega
                      · repeat first | refine lwp_seq fun K hK => ?_ | ((with_reducible refine thenS_normal ?_); apply_assumption -exfalso -symm) | refine thenS_exit ?_ | refine thenS_ret ?_ | refine inBlockS_normal ?_ | refine inBlockS_ret ?_ | refine inBlockS_hit rfl ?_ | refine inBlockS_miss rfl ?_ | refine lwp_block ?_ | refine lwp_skip ?_ | refine lwp_exit ?_ | refine lwp_ret ?_ | refine lwp_label ?_ | refine lwp_region hC ⟨[], [], []⟩ (told0 _ _) rfl True.intro ?_
                        (refine lwp_cond hC rfl (by first | exact True.intro | ((try simp only [AllL, All, cd_p, cp_p, cv_p, InK, and_true, true_and]); all_goals ((repeat' (first | refine And.intro ?_ ?_ | intro _)) <;> first | omega | exact True.intro | assumption | (simp; done) | rfl | (simp_all; done) | (simp_all; omega)))) (fun hb => ?_) (fun hb => ?_) <;> (try simp only [decide_eq_true_eq, decide_eq_false_iff_not, Bool.not_eq_true', Bool.not_eq_false', ne_eq, Decidable.not_not] at hb))
                        · clear hb
                          repeat first | refine lwp_seq fun K hK => ?_ | ((with_reducible refine thenS_normal ?_); apply_assumption -exfalso -symm) | refine thenS_exit ?_ | refine thenS_ret ?_ | refine inBlockS_normal ?_ | refine inBlockS_ret ?_ | refine inBlockS_hit rfl ?_ | refine inBlockS_miss rfl ?_ | refine lwp_block ?_ | refine lwp_skip ?_ | refine lwp_exit ?_ | refine lwp_ret ?_ | refine lwp_label ?_ | refine lwp_region hC ⟨[], [], []⟩ (told0 _ _) rfl True.intro ?_
                          (refine lwp_region hC ⟨[], [], []⟩ (told0 _ _) rfl ?_ ?_; rotate_left 1)
                          · repeat first | refine lwp_seq fun K hK => ?_ | ((with_reducible refine thenS_normal ?_); apply_assumption -exfalso -symm) | refine thenS_exit ?_ | refine thenS_ret ?_ | refine inBlockS_normal ?_ | refine inBlockS_ret ?_ | refine inBlockS_hit rfl ?_ | refine inBlockS_miss rfl ?_ | refine lwp_block ?_ | refine lwp_skip ?_ | refine lwp_exit ?_ | refine lwp_ret ?_ | refine lwp_label ?_ | refine lwp_region hC ⟨[], [], []⟩ (told0 _ _) rfl True.intro ?_ | refine lwp_region hC ⟨[], [], []⟩ (told0 _ _) rfl (by (simp only [AllL, All, cd_p, cp_p, cv_p, InK]; (repeat' (first | refine And.intro ?_ ?_ | intro _)) <;> first | omega | exact True.intro | rfl)) ?_
                            refine thenS_normal ⟨3, ?_, ?_, sub_intro hm [(0, some 0), (1, some 1), (2, some 2), (8, some 8), (12, some 12), (14, some 14)] rfl ?_⟩
                            · omega
                            · omega
                            · simp only [All, cd_p, cp_p, cv_p, r1, Int.toNat_natCast]
                              (repeat' refine And.intro ?_ ?_) <;> first | exact True.intro | rfl | omega
                          · simp only [AllL, All, cd_p, cp_p, cv_p, InK, r1, Int.toNat_natCast, fourK_len]
                            (repeat' (first | refine And.intro ?_ ?_ | intro _)) <;> first | omega | exact True.intro | rfl
                        · omega
                      · repeat first | refine lwp_seq fun K hK => ?_ | ((with_reducible refine thenS_normal ?_); apply_assumption -exfalso -symm) | refine thenS_exit ?_ | refine thenS_ret ?_ | refine inBlockS_normal ?_ | refine inBlockS_ret ?_ | refine inBlockS_hit rfl ?_ | refine inBlockS_miss rfl ?_ | refine lwp_block ?_ | refine lwp_skip ?_ | refine lwp_exit ?_ | refine lwp_ret ?_ | refine lwp_label ?_ | refine lwp_region hC ⟨[], [], []⟩ (told0 _ _) rfl True.intro ?_
                        (refine lwp_cond hC rfl (by first | exact True.intro | ((try simp only [AllL, All, cd_p, cp_p, cv_p, InK, and_true, true_and]); all_goals ((repeat' (first | refine And.intro ?_ ?_ | intro _)) <;> first | omega | exact True.intro | assumption | (simp; done) | rfl | (simp_all; done) | (simp_all; omega)))) (fun hb => ?_) (fun hb => ?_) <;> (try simp only [decide_eq_true_eq, decide_eq_false_iff_not, Bool.not_eq_true', Bool.not_eq_false', ne_eq, Decidable.not_not] at hb))
                        · clear hb
                          repeat first | refine lwp_seq fun K hK => ?_ | ((with_reducible refine thenS_normal ?_); apply_assumption -exfalso -symm) | refine thenS_exit ?_ | refine thenS_ret ?_ | refine inBlockS_normal ?_ | refine inBlockS_ret ?_ | refine inBlockS_hit rfl ?_ | refine inBlockS_miss rfl ?_ | refine lwp_block ?_ | refine lwp_skip ?_ | refine lwp_exit ?_ | refine lwp_ret ?_ | refine lwp_label ?_ | refine lwp_region hC ⟨[], [], []⟩ (told0 _ _) rfl True.intro ?_
                          (refine lwp_region hC ⟨[], [], []⟩ (told0 _ _) rfl ?_ ?_; rotate_left 1)
                          · repeat first | refine lwp_seq fun K hK => ?_ | ((with_reducible refine thenS_normal ?_); apply_assumption -exfalso -symm) | refine thenS_exit ?_ | refine thenS_ret ?_ | refine inBlockS_normal ?_ | refine inBlockS_ret ?_ | refine inBlockS_hit rfl ?_ | refine inBlockS_miss rfl ?_ | refine lwp_block ?_ | refine lwp_skip ?_ | refine lwp_exit ?_ | refine lwp_ret ?_ | refine lwp_label ?_ | refine lwp_region hC ⟨[], [], []⟩ (told0 _ _) rfl True.intro ?_ | refine lwp_region hC ⟨[], [], []⟩ (told0 _ _) rfl (by (simp only [AllL, All, cd_p, cp_p, cv_p, InK]; (repeat' (first | refine And.intro ?_ ?_ | intro _)) <;> first | omega | exact True.intro | rfl)) ?_
                            refine thenS_normal ⟨4, ?_, ?_, sub_intro hm [(0, some 0), (1, some 1), (2, some 2), (8, some 8), (12, some 12), (14, some 14)] rfl ?_⟩
                            · omega
                            · omega
                            · simp only [All, cd_p, cp_p, cv_p, r1, Int.toNat_natCast]
                              (repeat' refine And.intro ?_ ?_) <;> first | exact True.intro | rfl | omega
                          · simp only [AllL, All, cd_p, cp_p, cv_p, InK, r1, Int.toNat_natCast, fourK_len]
                            (repeat' (first | refine And.intro ?_ ?_ | intro _)) <;> first | omega | exact True.intro | rfl
                        · omega
                      repeat first | refine lwp_seq fun K hK => ?_ | ((with_reducible refine thenS_normal ?_); apply_assumption -exfalso -symm) | refine thenS_exit ?_ | refine thenS_ret ?_ | refine inBlockS_normal ?_ | refine inBlockS_ret ?_ | refine inBlockS_hit rfl ?_ | refine inBlockS_miss rfl ?_ | refine lwp_block ?_ | refine lwp_skip ?_ | refine lwp_exit ?_ | refine lwp_ret ?_ | refine lwp_label ?_ | refine lwp_region hC ⟨[], [], []⟩ (told0 _ _) rfl True.intro ?_
                      (refine lwp_cond hC rfl (by first | exact True.intro | ((try simp only [AllL, All, cd_p, cp_p, cv_p, InK, and_true, true_and]); all_goals ((repeat' (first | refine And.intro ?_ ?_ | intro _)) <;> first | omega | exact True.intro | assumption | (simp; done) | rfl | (simp_all; done) | (simp_all; omega)))) (fun hb => ?_) (fun hb => ?_) <;> (try simp only [decide_eq_true_eq, decide_eq_false_iff_not, Bool.not_eq_true', Bool.not_eq_false', ne_eq, Decidable.not_not] at hb))
                      · omega
                      clear hb r1 r2
                      repeat first | refine lwp_seq fun K hK => ?_ | ((with_reducible refine thenS_normal ?_); apply_assumption -exfalso -symm) | refine thenS_exit ?_ | refine thenS_ret ?_ | refine inBlockS_normal ?_ | refine inBlockS_ret ?_ | refine inBlockS_hit rfl ?_ | refine inBlockS_miss rfl ?_ | refine lwp_block ?_ | refine lwp_skip ?_ | refine lwp_exit ?_ | refine lwp_ret ?_ | refine lwp_label ?_
                      (refine lwp_region hC ⟨[], [], [(1, PRepeated_i (fourK l 4) 100 80 [(0, some 14)])]⟩ (told1 _ (by rw [hP]; exact (calls_cons (PRepeated_s _ _ _ _ (show 4 ≤ 100000 by omega)) calls_nil))) rfl ?_ ?_; rotate_left 1)
                      · rw [RepS_lev]
                        have hV : VersinesS (B : Int) (A : Int) (trT l) = (trV (B : Int) (A : Int) l, 0) := by rw [VersinesS_ok hc (trT_ok l), trV_vers l hco.1.1 hco.1.2 hco.2.1 hco.2.2]
                        have hET := (panT l).1
                        have hEV := (panV l hco.1.1 hco.1.2 hco.2.1 hco.2.2).1
                        repeat first | refine lwp_seq fun K hK => ?_ | ((with_reducible refine thenS_normal ?_); apply_assumption -exfalso -symm) | refine thenS_exit ?_ | refine thenS_ret ?_ | refine inBlockS_normal ?_ | refine inBlockS_ret ?_ | refine inBlockS_hit rfl ?_ | refine inBlockS_miss rfl ?_ | refine lwp_block ?_ | refine lwp_skip ?_ | refine lwp_exit ?_ | refine lwp_ret ?_ | refine lwp_label ?_
                        (refine lwp_region hC ⟨[], [], [(2, PVersines_i (B : Int) (A : Int) (trT l) [(0, some 15), (1, some 16)])]⟩ (told1 _ (by rw [hP]; exact (calls_cons (PVersines_s _ _ _ _) calls_nil))) rfl ?_ ?_; rotate_left 1)
                        · rw [hV]
                          repeat first | refine lwp_seq fun K hK => ?_ | ((with_reducible refine thenS_normal ?_); apply_assumption -exfalso -symm) | refine thenS_exit ?_ | refine thenS_ret ?_ | refine inBlockS_normal ?_ | refine inBlockS_ret ?_ | refine inBlockS_hit rfl ?_ | refine inBlockS_miss rfl ?_ | refine lwp_block ?_ | refine lwp_skip ?_ | refine lwp_exit ?_ | refine lwp_ret ?_ | refine lwp_label ?_
                          (refine lwp_region hC ⟨[], [], [(1, PanF_i (trT l) 100 P0 Q0 P1 Q1 P2 Q2 P3 Q3 [(0, some 0), (1, some 15), (2, some 16)])]⟩ (told1 _ (by rw [hP]; exact (calls_cons (PanF_s _ hPP hET) calls_nil))) rfl ?_ ?_; rotate_left 1)
                          · repeat first | refine lwp_seq fun K hK => ?_ | ((with_reducible refine thenS_normal ?_); apply_assumption -exfalso -symm) | refine thenS_exit ?_ | refine thenS_ret ?_ | refine inBlockS_normal ?_ | refine inBlockS_ret ?_ | refine inBlockS_hit rfl ?_ | refine inBlockS_miss rfl ?_ | refine lwp_block ?_ | refine lwp_skip ?_ | refine lwp_exit ?_ | refine lwp_ret ?_ | refine lwp_label ?_
                            (refine lwp_region hC ⟨[], [], [(1, PanF_i (trV (B : Int) (A : Int) l) 132 R0 S0 R1 S1 R2 S2 R3 S3 [(0, some 0), (1, some 19), (2, some 20)])]⟩ (told1 _ (by rw [hP]; exact (calls_cons (PanF_s _ hR hEV) calls_nil))) rfl ?_ ?_; rotate_left 1)
                            · repeat first | refine lwp_seq fun K hK => ?_ | ((with_reducible refine thenS_normal ?_); apply_assumption -exfalso -symm) | refine thenS_exit ?_ | refine thenS_ret ?_ | refine inBlockS_normal ?_ | refine inBlockS_ret ?_ | refine inBlockS_hit rfl ?_ | refine inBlockS_miss rfl ?_ | refine lwp_block ?_ | refine lwp_skip ?_ | refine lwp_exit ?_ | refine lwp_ret ?_ | refine lwp_label ?_ | refine lwp_region hC ⟨[], [], []⟩ (told0 _ _) rfl True.intro ?_ | refine lwp_region hC ⟨[], [], []⟩ (told0 _ _) rfl (by (simp only [AllL, All, cd_p, cp_p, cv_p, InK]; (repeat' (first | refine And.intro ?_ ?_ | intro _)) <;> first | omega | exact True.intro | rfl)) ?_
                              (refine lwp_cond hC rfl (by first | exact True.intro | ((try simp only [AllL, All, cd_p, cp_p, cv_p, InK, and_true, true_and]); all_goals ((repeat' (first | refine And.intro ?_ ?_ | intro _)) <;> first | omega | exact True.intro | assumption | (simp; done) | rfl | (simp_all; done) | (simp_all; omega)))) (fun hb => ?_) (fun hb => ?_) <;> (try simp only [decide_eq_true_eq, decide_eq_false_iff_not, Bool.not_eq_true', Bool.not_eq_false', ne_eq, Decidable.not_not] at hb))
                              · exfalso
                                simp at hb
                              clear hb hPP hR hV hET hEV hF hE
                              repeat first | refine lwp_seq fun K hK => ?_ | ((with_reducible refine thenS_normal ?_); apply_assumption -exfalso -symm) | refine thenS_exit ?_ | refine thenS_ret ?_ | refine inBlockS_normal ?_ | refine inBlockS_ret ?_ | refine inBlockS_hit rfl ?_ | refine inBlockS_miss rfl ?_ | refine lwp_block ?_ | refine lwp_skip ?_ | refine lwp_exit ?_ | refine lwp_ret ?_ | refine lwp_label ?_ | refine lwp_region hC ⟨[], [], []⟩ (told0 _ _) rfl True.intro ?_
                              refine lwp_loop (fun k : Nat => ⟨[(242, i64 k), (35, .ptr 25 0 0 0), (33, .ptr 23 0 0 0), (25, .ptr 12 0 0 0), (21, .ptr 8 0 0 0)], [(0, powC), (8, .blk 53 [cxA E0 G0, cxA E1 G1, cxA E2 G2, cxA E3 G3]), (12, .blk 53 [cxA E0 H0, cxA E1 H1, cxA E2 H2, cxA E3 H3]), (23, .blk 53 [cxA P0 Q0, cxA P1 Q1, cxA P2 Q2, cxA P3 Q3]), (25, .blk 53 [cxA R0 S0, cxA R1 S1, cxA R2 S2, cxA R3 S3])], 27⟩) (fun k => k ≤ 4) (fun k => 4 - k) 0 ⟨?_, sub_intro hm [(0, some 0), (8, some 8), (12, some 12), (23, some 23), (25, some 25)] rfl ?_⟩ ?_
                              · omega
                              · simp only [All, cd_p, cp_p, cv_p]
                                (repeat' refine And.intro ?_ ?_) <;> first | exact True.intro | rfl | omega
                              rintro k hk
                              obtain rfl | rfl | rfl | rfl | rfl : k = 0 ∨ k = 1 ∨ k = 2 ∨ k = 3 ∨ k = 4 := by omega
                              · obtain ⟨f0, g0, h0, p0, q0, u0, v0⟩ := K0.out
                                have hlaw := panel_law (B : Int) (A : Int) (lev l 0) (lev l 1) (lev l 2) (lev l 3) 0 (by simp)
                                have hls := lev_sums l 0
                                have hb1 := tR_bd hco.1.1 hco.1.2 hco.2.1 hco.2.2 0
                                have hb2 := tI_bd hco.1.1 hco.1.2 hco.2.1 hco.2.2 0
                                obtain ⟨m1, m2, m3, m4, w, z, a1, a2, a3, a4, a5, a6, c1, c2⟩ := place_floats f0 g0 p0 q0 u0 v0 hb1 hb2 hls.1 hls.2 hlaw.1 hlaw.2
                                have d1 : Op.floatEq .f64 E0 E0 = true := by rw [f0]; exact fl_same _
                                have d2 : Op.floatEq .f64 H0 (Op.negFloat .f64 G0) = true := by rw [h0, g0]; exact neg_eq hb2.1 hb2.2
                                clear hlaw hls hb1 hb2 f0 g0 h0 p0 q0 u0 v0
                                repeat first | refine lwp_seq fun K hK => ?_ | ((with_reducible refine thenS_normal ?_); apply_assumption -exfalso -symm) | refine thenS_exit ?_ | refine thenS_ret ?_ | refine inBlockS_normal ?_ | refine inBlockS_ret ?_ | refine inBlockS_hit rfl ?_ | refine inBlockS_miss rfl ?_ | refine lwp_block ?_ | refine lwp_skip ?_ | refine lwp_exit ?_ | refine lwp_ret ?_ | refine lwp_label ?_ | refine lwp_region hC ⟨[], [], []⟩ (told0 _ _) rfl True.intro ?_
                                (refine lwp_cond hC rfl (by first | exact True.intro | ((try simp only [AllL, All, cd_p, cp_p, cv_p, InK, and_true, true_and]); all_goals ((repeat' (first | refine And.intro ?_ ?_ | intro _)) <;> first | omega | exact True.intro | assumption | (simp; done) | rfl | (simp_all; done) | (simp_all; omega)))) (fun hb => ?_) (fun hb => ?_) <;> (try simp only [decide_eq_true_eq, decide_eq_false_iff_not, Bool.not_eq_true', Bool.not_eq_false', ne_eq, Decidable.not_not] at hb))
                                · clear hb
                                  repeat first | refine lwp_seq fun K hK => ?_ | ((with_reducible refine thenS_normal ?_); apply_assumption -exfalso -symm) | refine thenS_exit ?_ | refine thenS_ret ?_ | refine inBlockS_normal ?_ | refine inBlockS_ret ?_ | refine inBlockS_hit rfl ?_ | refine inBlockS_miss rfl ?_ | refine lwp_block ?_ | refine lwp_skip ?_ | refine lwp_exit ?_ | refine lwp_ret ?_ | refine lwp_label ?_ | refine lwp_region hC ⟨[], [], []⟩ (told0 _ _) rfl True.intro ?_
                                  (refine lwp_drawn2 hC (by rw [hP]; exact mixed) ⟨[], [], []⟩ (told0 _ _) [0, 1, 3, 7, 0, 16, 48, 112, 255, 511, 1023, 2047, 4095, 8191, 1023, 17407, 50175, 115711, 246783, 524287, 1048575] 21 0 rfl ?_ ?_; rotate_left 1)
                                  · repeat first | refine lwp_seq fun K hK => ?_ | ((with_reducible refine thenS_normal ?_); apply_assumption -exfalso -symm) | refine thenS_exit ?_ | refine thenS_ret ?_ | refine inBlockS_normal ?_ | refine inBlockS_ret ?_ | refine inBlockS_hit rfl ?_ | refine inBlockS_miss rfl ?_ | refine lwp_block ?_ | refine lwp_skip ?_ | refine lwp_exit ?_ | refine lwp_ret ?_ | refine lwp_label ?_ | refine lwp_region hC ⟨[], [], []⟩ (told0 _ _) rfl True.intro ?_
                                    (refine lwp_cond hC rfl (by first | exact True.intro | ((try simp only [AllL, All, cd_p, cp_p, cv_p, InK, and_true, true_and]); all_goals ((repeat' (first | refine And.intro ?_ ?_ | intro _)) <;> first | omega | exact True.intro | assumption | (simp; done) | rfl | (simp_all; done) | (simp_all; omega)))) (fun hb => ?_) (fun hb => ?_) <;> (try simp only [decide_eq_true_eq, decide_eq_false_iff_not, Bool.not_eq_true', Bool.not_eq_false', ne_eq, Decidable.not_not] at hb))
                                    · exact (both_no d1 d2 hb).elim
                                    clear hb
                                    repeat first | refine lwp_seq fun K hK => ?_ | ((with_reducible refine thenS_normal ?_); apply_assumption -exfalso -symm) | refine thenS_exit ?_ | refine thenS_ret ?_ | refine inBlockS_normal ?_ | refine inBlockS_ret ?_ | refine inBlockS_hit rfl ?_ | refine inBlockS_miss rfl ?_ | refine lwp_block ?_ | refine lwp_skip ?_ | refine lwp_exit ?_ | refine lwp_ret ?_ | refine lwp_label ?_
                                    (refine lwp_drawn2 hC (by rw [hP]; exact mixed) ⟨[], [], []⟩ (told0 _ _) [0, 1, 3, 7, 0, 16, 48, 112, 255, 0, 512, 1536, 3584, 0, 8192, 24576, 57344, 130560, 262143, 524287] 20 0 rfl ?_ ?_; rotate_left 1)
                                    · simp only [a1, a2, a5, Option.getD_some]
                                      repeat first | refine lwp_seq fun K hK => ?_ | ((with_reducible refine thenS_normal ?_); apply_assumption -exfalso -symm) | refine thenS_exit ?_ | refine thenS_ret ?_ | refine inBlockS_normal ?_ | refine inBlockS_ret ?_ | refine inBlockS_hit rfl ?_ | refine inBlockS_miss rfl ?_ | refine lwp_block ?_ | refine lwp_skip ?_ | refine lwp_exit ?_ | refine lwp_ret ?_ | refine lwp_label ?_
                                      (refine lwp_drawn2 hC (by rw [hP]; exact mixed) ⟨[], [], []⟩ (told0 _ _) [0, 1, 3, 7, 0, 16, 48, 112, 255, 0, 512, 1536, 3584, 0, 8192, 24576, 57344, 130560, 262143, 524287] 20 0 rfl ?_ ?_; rotate_left 1)
                                      · simp only [a3, a4, a6, Option.getD_some]
                                        repeat first | refine lwp_seq fun K hK => ?_ | ((with_reducible refine thenS_normal ?_); apply_assumption -exfalso -symm) | refine thenS_exit ?_ | refine thenS_ret ?_ | refine inBlockS_normal ?_ | refine inBlockS_ret ?_ | refine inBlockS_hit rfl ?_ | refine inBlockS_miss rfl ?_ | refine lwp_block ?_ | refine lwp_skip ?_ | refine lwp_exit ?_ | refine lwp_ret ?_ | refine lwp_label ?_ | refine lwp_region hC ⟨[], [], []⟩ (told0 _ _) rfl True.intro ?_ | refine lwp_region hC ⟨[], [], []⟩ (told0 _ _) rfl (by ((try simp only [AllL, All, cd_p, cp_p, cv_p, InK, and_true, true_and]); all_goals ((repeat' (first | refine And.intro ?_ ?_ | intro _)) <;> first | omega | exact True.intro | assumption | (simp; done) | rfl | (simp_all; done) | (simp_all; omega)))) ?_
                                        (refine lwp_cond hC rfl (by first | exact True.intro | ((try simp only [AllL, All, cd_p, cp_p, cv_p, InK, and_true, true_and]); all_goals ((repeat' (first | refine And.intro ?_ ?_ | intro _)) <;> first | omega | exact True.intro | assumption | (simp; done) | rfl | (simp_all; done) | (simp_all; omega)))) (fun hb => ?_) (fun hb => ?_) <;> (try simp only [decide_eq_true_eq, decide_eq_false_iff_not, Bool.not_eq_true', Bool.not_eq_false', ne_eq, Decidable.not_not] at hb))
                                        · exact (both_no c1 c2 hb).elim
                                        clear hb
                                        repeat first | refine lwp_seq fun K hK => ?_ | ((with_reducible refine thenS_normal ?_); apply_assumption -exfalso -symm) | refine thenS_exit ?_ | refine thenS_ret ?_ | refine inBlockS_normal ?_ | refine inBlockS_ret ?_ | refine inBlockS_hit rfl ?_ | refine inBlockS_miss rfl ?_ | refine lwp_block ?_ | refine lwp_skip ?_ | refine lwp_exit ?_ | refine lwp_ret ?_ | refine lwp_label ?_ | refine lwp_region hC ⟨[], [], []⟩ (told0 _ _) rfl True.intro ?_ | refine lwp_region hC ⟨[], [], []⟩ (told0 _ _) rfl (by (simp only [AllL, All, cd_p, cp_p, cv_p, InK]; (repeat' (first | refine And.intro ?_ ?_ | intro _)) <;> first | omega | exact True.intro | rfl)) ?_
                                        refine thenS_normal ⟨1, ?_, ?_, sub_intro hm [(0, some 0), (8, some 8), (12, some 12), (23, some 23), (25, some 25)] rfl ?_⟩
                                        · omega
                                        · omega
                                        · simp only [All, cd_p, cp_p, cv_p]
                                          (repeat' refine And.intro ?_ ?_) <;> first | exact True.intro | rfl | omega
                                      · simp only [AllL, All, cd_p, cp_p, cv_p, InK, a3, a4, a6, Option.getD_some, Option.isSome_some]
                                        (repeat' (first | refine And.intro ?_ ?_ | intro _)) <;> first | omega | exact True.intro | rfl
                                    · simp only [AllL, All, cd_p, cp_p, cv_p, InK, a1, a2, a5, Option.getD_some, Option.isSome_some]
                                      (repeat' (first | refine And.intro ?_ ?_ | intro _)) <;> first | omega | exact True.intro | rfl
                                  · simp only [AllL, All, cd_p, cp_p, cv_p, InK]
                                    (repeat' (first | refine And.intro ?_ ?_ | intro _)) <;> first | exact True.intro | (rw [d1]; rfl) | omega | rfl
                                · omega
                              · obtain ⟨f1, g1, h1, p1, q1, u1, v1⟩ := K1.out
                                have hlaw := panel_law (B : Int) (A : Int) (lev l 0) (lev l 1) (lev l 2) (lev l 3) 1 (by simp)
                                have hls := lev_sums l 1
                                have hb1 := tR_bd hco.1.1 hco.1.2 hco.2.1 hco.2.2 1
                                have hb2 := tI_bd hco.1.1 hco.1.2 hco.2.1 hco.2.2 1
                                obtain ⟨m1, m2, m3, m4, w, z, a1, a2, a3, a4, a5, a6, c1, c2⟩ := place_floats f1 g1 p1 q1 u1 v1 hb1 hb2 hls.1 hls.2 hlaw.1 hlaw.2
                                have d1 : Op.floatEq .f64 E1 E1 = true := by rw [f1]; exact fl_same _
                                have d2 : Op.floatEq .f64 H1 (Op.negFloat .f64 G1) = true := by rw [h1, g1]; exact neg_eq hb2.1 hb2.2
                                clear hlaw hls hb1 hb2 f1 g1 h1 p1 q1 u1 v1
                                repeat first | refine lwp_seq fun K hK => ?_ | ((with_reducible refine thenS_normal ?_); apply_assumption -exfalso -symm) | refine thenS_exit ?_ | refine thenS_ret ?_ | refine inBlockS_normal ?_ | refine inBlockS_ret ?_ | refine inBlockS_hit rfl ?_ | refine inBlockS_miss rfl ?_ | refine lwp_block ?_ | refine lwp_skip ?_ | refine lwp_exit ?_ | refine lwp_ret ?_ | refine lwp_label ?_ | refine lwp_region hC ⟨[], [], []⟩ (told0 _ _) rfl True.intro ?_
                                (refine lwp_cond hC rfl (by first | exact True.intro | ((try simp only [AllL, All, cd_p, cp_p, cv_p, InK, and_true, true_and]); all_goals ((repeat' (first | refine And.intro ?_ ?_ | intro _)) <;> first | omega | exact True.intro | assumption | (simp; done) | rfl | (simp_all; done) | (simp_all; omega)))) (fun hb => ?_) (fun hb => ?_) <;> (try simp only [decide_eq_true_eq, decide_eq_false_iff_not, Bool.not_eq_true', Bool.not_eq_false', ne_eq, Decidable.not_not] at hb))
                                · clear hb
                                  repeat first | refine lwp_seq fun K hK => ?_ | ((with_reducible refine thenS_normal ?_); apply_assumption -exfalso -symm) | refine thenS_exit ?_ | refine thenS_ret ?_ | refine inBlockS_normal ?_ | refine inBlockS_ret ?_ | refine inBlockS_hit rfl ?_ | refine inBlockS_miss rfl ?_ | refine lwp_block ?_ | refine lwp_skip ?_ | refine lwp_exit ?_ | refine lwp_ret ?_ | refine lwp_label ?_ | refine lwp_region hC ⟨[], [], []⟩ (told0 _ _) rfl True.intro ?_
                                  (refine lwp_drawn2 hC (by rw [hP]; exact mixed) ⟨[], [], []⟩ (told0 _ _) [0, 1, 3, 7, 0, 16, 48, 112, 255, 511, 1023, 2047, 4095, 8191, 1023, 17407, 50175, 115711, 246783, 524287, 1048575] 21 0 rfl ?_ ?_; rotate_left 1)
                                  · repeat first | refine lwp_seq fun K hK => ?_ | ((with_reducible refine thenS_normal ?_); apply_assumption -exfalso -symm) | refine thenS_exit ?_ | refine thenS_ret ?_ | refine inBlockS_normal ?_ | refine inBlockS_ret ?_ | refine inBlockS_hit rfl ?_ | refine inBlockS_miss rfl ?_ | refine lwp_block ?_ | refine lwp_skip ?_ | refine lwp_exit ?_ | refine lwp_ret ?_ | refine lwp_label ?_ | refine lwp_region hC ⟨[], [], []⟩ (told0 _ _) rfl True.intro ?_
                                    (refine lwp_cond hC rfl (by first | exact True.intro | ((try simp only [AllL, All, cd_p, cp_p, cv_p, InK, and_true, true_and]); all_goals ((repeat' (first | refine And.intro ?_ ?_ | intro _)) <;> first | omega | exact True.intro | assumption | (simp; done) | rfl | (simp_all; done) | (simp_all; omega)))) (fun hb => ?_) (fun hb => ?_) <;> (try simp only [decide_eq_true_eq, decide_eq_false_iff_not, Bool.not_eq_true', Bool.not_eq_false', ne_eq, Decidable.not_not] at hb))
                                    · exact (both_no d1 d2 hb).elim
                                    clear hb
                                    repeat first | refine lwp_seq fun K hK => ?_ | ((with_reducible refine thenS_normal ?_); apply_assumption -exfalso -symm) | refine thenS_exit ?_ | refine thenS_ret ?_ | refine inBlockS_normal ?_ | refine inBlockS_ret ?_ | refine inBlockS_hit rfl ?_ | refine inBlockS_miss rfl ?_ | refine lwp_block ?_ | refine lwp_skip ?_ | refine lwp_exit ?_ | refine lwp_ret ?_ | refine lwp_label ?_
                                    (refine lwp_drawn2 hC (by rw [hP]; exact mixed) ⟨[], [], []⟩ (told0 _ _) [0, 1, 3, 7, 0, 16, 48, 112, 255, 0, 512, 1536, 3584, 0, 8192, 24576, 57344, 130560, 262143, 524287] 20 0 rfl ?_ ?_; rotate_left 1)
                                    · simp only [a1, a2, a5, Option.getD_some]
                                      repeat first | refine lwp_seq fun K hK => ?_ | ((with_reducible refine thenS_normal ?_); apply_assumption -exfalso -symm) | refine thenS_exit ?_ | refine thenS_ret ?_ | refine inBlockS_normal ?_ | refine inBlockS_ret ?_ | refine inBlockS_hit rfl ?_ | refine inBlockS_miss rfl ?_ | refine lwp_block ?_ | refine lwp_skip ?_ | refine lwp_exit ?_ | refine lwp_ret ?_ | refine lwp_label ?_
                                      (refine lwp_drawn2 hC (by rw [hP]; exact mixed) ⟨[], [], []⟩ (told0 _ _) [0, 1, 3, 7, 0, 16, 48, 112, 255, 0, 512, 1536, 3584, 0, 8192, 24576, 57344, 130560, 262143, 524287] 20 0 rfl ?_ ?_; rotate_left 1)
                                      · simp only [a3, a4, a6, Option.getD_some]
                                        repeat first | refine lwp_seq fun K hK => ?_ | ((with_reducible refine thenS_normal ?_); apply_assumption -exfalso -symm) | refine thenS_exit ?_ | refine thenS_ret ?_ | refine inBlockS_normal ?_ | refine inBlockS_ret ?_ | refine inBlockS_hit rfl ?_ | refine inBlockS_miss rfl ?_ | refine lwp_block ?_ | refine lwp_skip ?_ | refine lwp_exit ?_ | refine lwp_ret ?_ | refine lwp_label ?_ | refine lwp_region hC ⟨[], [], []⟩ (told0 _ _) rfl True.intro ?_ | refine lwp_region hC ⟨[], [], []⟩ (told0 _ _) rfl (by ((try simp only [AllL, All, cd_p, cp_p, cv_p, InK, and_true, true_and]); all_goals ((repeat' (first | refine And.intro ?_ ?_ | intro _)) <;> first | omega | exact True.intro | assumption | (simp; done) | rfl | (simp_all; done) | (simp_all; omega)))) ?_
                                        (refine lwp_cond hC rfl (by first | exact True.intro | ((try simp only [AllL, All, cd_p, cp_p, cv_p, InK, and_true, true_and]); all_goals ((repeat' (first | refine And.intro ?_ ?_ | intro _)) <;> first | omega | exact True.intro | assumption | (simp; done) | rfl | (simp_all; done) | (simp_all; omega)))) (fun hb => ?_) (fun hb => ?_) <;> (try simp only [decide_eq_true_eq, decide_eq_false_iff_not, Bool.not_eq_true', Bool.not_eq_false', ne_eq, Decidable.not_not] at hb))
                                        · exact (both_no c1 c2 hb).elim
                                        clear hb
                                        repeat first | refine lwp_seq fun K hK => ?_ | ((with_reducible refine thenS_normal ?_); apply_assumption -exfalso -symm) | refine thenS_exit ?_ | refine thenS_ret ?_ | refine inBlockS_normal ?_ | refine inBlockS_ret ?_ | refine inBlockS_hit rfl ?_ | refine inBlockS_miss rfl ?_ | refine lwp_block ?_ | refine lwp_skip ?_ | refine lwp_exit ?_ | refine lwp_ret ?_ | refine lwp_label ?_ | refine lwp_region hC ⟨[], [], []⟩ (told0 _ _) rfl True.intro ?_ | refine lwp_region hC ⟨[], [], []⟩ (told0 _ _) rfl (by (simp only [AllL, All, cd_p, cp_p, cv_p, InK]; (repeat' (first | refine And.intro ?_ ?_ | intro _)) <;> first | omega | exact True.intro | rfl)) ?_
                                        refine thenS_normal ⟨2, ?_, ?_, sub_intro hm [(0, some 0), (8, some 8), (12, some 12), (23, some 23), (25, some 25)] rfl ?_⟩
                                        · omega
                                        · omega
                                        · simp only [All, cd_p, cp_p, cv_p]
                                          (repeat' refine And.intro ?_ ?_) <;> first | exact True.intro | rfl | omega
                                      · simp only [AllL, All, cd_p, cp_p, cv_p, InK, a3, a4, a6, Option.getD_some, Option.isSome_some]
                                        (repeat' (first | refine And.intro ?_ ?_ | intro _)) <;> first | omega | exact True.intro | rfl
                                    · simp only [AllL, All, cd_p, cp_p, cv_p, InK, a1, a2, a5, Option.getD_some, Option.isSome_some]
                                      (repeat' (first | refine And.intro ?_ ?_ | intro _)) <;> first | omega | exact True.intro | rfl
                                  · simp only [AllL, All, cd_p, cp_p, cv_p, InK]
                                    (repeat' (first | refine And.intro ?_ ?_ | intro _)) <;> first | exact True.intro | (rw [d1]; rfl) | omega | rfl
                                · omega
                              · obtain ⟨f2, g2, h2, p2, q2, u2, v2⟩ := K2.out
                                have hlaw := panel_law (B : Int) (A : Int) (lev l 0) (lev l 1) (lev l 2) (lev l 3) 2 (by simp)
                                have hls := lev_sums l 2
                                have hb1 := tR_bd hco.1.1 hco.1.2 hco.2.1 hco.2.2 2
                                have hb2 := tI_bd hco.1.1 hco.1.2 hco.2.1 hco.2.2 2
                                obtain ⟨m1, m2, m3, m4, w, z, a1, a2, a3, a4, a5, a6, c1, c2⟩ := place_floats f2 g2 p2 q2 u2 v2 hb1 hb2 hls.1 hls.2 hlaw.1 hlaw.2
                                have d1 : Op.floatEq .f64 E2 E2 = true := by rw [f2]; exact fl_same _
                                have d2 : Op.floatEq .f64 H2 (Op.negFloat .f64 G2) = true := by rw [h2, g2]; exact neg_eq hb2.1 hb2.2
                                clear hlaw hls hb1 hb2 f2 g2 h2 p2 q2 u2 v2
                                repeat first | refine lwp_seq fun K hK => ?_ | ((with_reducible refine thenS_normal ?_); apply_assumption -exfalso -symm) | refine thenS_exit ?_ | refine thenS_ret ?_ | refine inBlockS_normal ?_ | refine inBlockS_ret ?_ | refine inBlockS_hit rfl ?_ | refine inBlockS_miss rfl ?_ | refine lwp_block ?_ | refine lwp_skip ?_ | refine lwp_exit ?_ | refine lwp_ret ?_ | refine lwp_label ?_ | refine lwp_region hC ⟨[], [], []⟩ (told0 _ _) rfl True.intro ?_
                                (refine lwp_cond hC rfl (by first | exact True.intro | ((try simp only [AllL, All, cd_p, cp_p, cv_p, InK, and_true, true_and]); all_goals ((repeat' (first | refine And.intro ?_ ?_ | intro _)) <;> first | omega | exact True.intro | assumption | (simp; done) | rfl | (simp_all; done) | (simp_all; omega)))) (fun hb => ?_) (fun hb => ?_) <;> (try simp only [decide_eq_true_eq, decide_eq_false_iff_not, Bool.not_eq_true', Bool.not_eq_false', ne_eq, Decidable.not_not] at hb))
                                · clear hb
                                  repeat first | refine lwp_seq fun K hK => ?_ | ((with_reducible refine thenS_normal ?_); apply_assumption -exfalso -symm) | refine thenS_exit ?_ | refine thenS_ret ?_ | refine inBlockS_normal ?_ | refine inBlockS_ret ?_ | refine inBlockS_hit rfl ?_ | refine inBlockS_miss rfl ?_ | refine lwp_block ?_ | refine lwp_skip ?_ | refine lwp_exit ?_ | refine lwp_ret ?_ | refine lwp_label ?_ | refine lwp_region hC ⟨[], [], []⟩ (told0 _ _) rfl True.intro ?_
                                  (refine lwp_drawn2 hC (by rw [hP]; exact mixed) ⟨[], [], []⟩ (told0 _ _) [0, 1, 3, 7, 0, 16, 48, 112, 255, 511, 1023, 2047, 4095, 8191, 1023, 17407, 50175, 115711, 246783, 524287, 1048575] 21 0 rfl ?_ ?_; rotate_left 1)
                                  · repeat first | refine lwp_seq fun K hK => ?_ | ((with_reducible refine thenS_normal ?_); apply_assumption -exfalso -symm) | refine thenS_exit ?_ | refine thenS_ret ?_ | refine inBlockS_normal ?_ | refine inBlockS_ret ?_ | refine inBlockS_hit rfl ?_ | refine inBlockS_miss rfl ?_ | refine lwp_block ?_ | refine lwp_skip ?_ | refine lwp_exit ?_ | refine lwp_ret ?_ | refine lwp_label ?_ | refine lwp_region hC ⟨[], [], []⟩ (told0 _ _) rfl True.intro ?_
                                    (refine lwp_cond hC rfl (by first | exact True.intro | ((try simp only [AllL, All, cd_p, cp_p, cv_p, InK, and_true, true_and]); all_goals ((repeat' (first | refine And.intro ?_ ?_ | intro _)) <;> first | omega | exact True.intro | assumption | (simp; done) | rfl | (simp_all; done) | (simp_all; omega)))) (fun hb => ?_) (fun hb => ?_) <;> (try simp only [decide_eq_true_eq, decide_eq_false_iff_not, Bool.not_eq_true', Bool.not_eq_false', ne_eq, Decidable.not_not] at hb))
                                    · exact (both_no d1 d2 hb).elim
                                    clear hb
                                    repeat first | refine lwp_seq fun K hK => ?_ | ((with_reducible refine thenS_normal ?_); apply_assumption -exfalso -symm) | refine thenS_exit ?_ | refine thenS_ret ?_ | refine inBlockS_normal ?_ | refine inBlockS_ret ?_ | refine inBlockS_hit rfl ?_ | refine inBlockS_miss rfl ?_ | refine lwp_block ?_ | refine lwp_skip ?_ | refine lwp_exit ?_ | refine lwp_ret ?_ | refine lwp_label ?_
                                    (refine lwp_drawn2 hC (by rw [hP]; exact mixed) ⟨[], [], []⟩ (told0 _ _) [0, 1, 3, 7, 0, 16, 48, 112, 255, 0, 512, 1536, 3584, 0, 8192, 24576, 57344, 130560, 262143, 524287] 20 0 rfl ?_ ?_; rotate_left 1)
                                    · simp only [a1, a2, a5, Option.getD_some]
                                      repeat first | refine lwp_seq fun K hK => ?_ | ((with_reducible refine thenS_normal ?_); apply_assumption -exfalso -symm) | refine thenS_exit ?_ | refine thenS_ret ?_ | refine inBlockS_normal ?_ | refine inBlockS_ret ?_ | refine inBlockS_hit rfl ?_ | refine inBlockS_miss rfl ?_ | refine lwp_block ?_ | refine lwp_skip ?_ | refine lwp_exit ?_ | refine lwp_ret ?_ | refine lwp_label ?_
                                      (refine lwp_drawn2 hC (by rw [hP]; exact mixed) ⟨[], [], []⟩ (told0 _ _) [0, 1, 3, 7, 0, 16, 48, 112, 255, 0, 512, 1536, 3584, 0, 8192, 24576, 57344, 130560, 262143, 524287] 20 0 rfl ?_ ?_; rotate_left 1)
                                      · simp only [a3, a4, a6, Option.getD_some]
                                        repeat first | refine lwp_seq fun K hK => ?_ | ((with_reducible refine thenS_normal ?_); apply_assumption -exfalso -symm) | refine thenS_exit ?_ | refine thenS_ret ?_ | refine inBlockS_normal ?_ | refine inBlockS_ret ?_ | refine inBlockS_hit rfl ?_ | refine inBlockS_miss rfl ?_ | refine lwp_block ?_ | refine lwp_skip ?_ | refine lwp_exit ?_ | refine lwp_ret ?_ | refine lwp_label ?_ | refine lwp_region hC ⟨[], [], []⟩ (told0 _ _) rfl True.intro ?_ | refine lwp_region hC ⟨[], [], []⟩ (told0 _ _) rfl (by ((try simp only [AllL, All, cd_p, cp_p, cv_p, InK, and_true, true_and]); all_goals ((repeat' (first | refine And.intro ?_ ?_ | intro _)) <;> first | omega | exact True.intro | assumption | (simp; done) | rfl | (simp_all; done) | (simp_all; omega)))) ?_
                                        (refine lwp_cond hC rfl (by first | exact True.intro | ((try simp only [AllL, All, cd_p, cp_p, cv_p, InK, and_true, true_and]); all_goals ((repeat' (first | refine And.intro ?_ ?_ | intro _)) <;> first | omega | exact True.intro | assumption | (simp; done) | rfl | (simp_all; done) | (simp_all; omega)))) (fun hb => ?_) (fun hb => ?_) <;> (try simp only [decide_eq_true_eq, decide_eq_false_iff_not, Bool.not_eq_true', Bool.not_eq_false', ne_eq, Decidable.not_not] at hb))
                                        · exact (both_no c1 c2 hb).elim
                                        clear hb
                                        repeat first | refine lwp_seq fun K hK => ?_ | ((with_reducible refine thenS_normal ?_); apply_assumption -exfalso -symm) | refine thenS_exit ?_ | refine thenS_ret ?_ | refine inBlockS_normal ?_ | refine inBlockS_ret ?_ | refine inBlockS_hit rfl ?_ | refine inBlockS_miss rfl ?_ | refine lwp_block ?_ | refine lwp_skip ?_ | refine lwp_exit ?_ | refine lwp_ret ?_ | refine lwp_label ?_ | refine lwp_region hC ⟨[], [], []⟩ (told0 _ _) rfl True.intro ?_ | refine lwp_region hC ⟨[], [], []⟩ (told0 _ _) rfl (by (simp only [AllL, All, cd_p, cp_p, cv_p, InK]; (repeat' (first | refine And.intro ?_ ?_ | intro _)) <;> first | omega | exact True.intro | rfl)) ?_
                                        refine thenS_normal ⟨3, ?_, ?_, sub_intro hm [(0, some 0), (8, some 8), (12, some 12), (23, some 23), (25, some 25)] rfl ?_⟩
                                        · omega
                                        · omega
                                        · simp only [All, cd_p, cp_p, cv_p]
                                          (repeat' refine And.intro ?_ ?_) <;> first | exact True.intro | rfl | omega
                                      · simp only [AllL, All, cd_p, cp_p, cv_p, InK, a3, a4, a6, Option.getD_some, Option.isSome_some]
                                        (repeat' (first | refine And.intro ?_ ?_ | intro _)) <;> first | omega | exact True.intro | rfl
                                    · simp only [AllL, All, cd_p, cp_p, cv_p, InK, a1, a2, a5, Option.getD_some, Option.isSome_some]
                                      (repeat' (first | refine And.intro ?_ ?_ | intro _)) <;> first | omega | exact True.intro | rfl
                                  · simp only [AllL, All, cd_p, cp_p, cv_p, InK]
                                    (repeat' (first | refine And.intro ?_ ?_ | intro _)) <;> first | exact True.intro | (rw [d1]; rfl) | omega | rfl
                                · omega
                              · obtain ⟨f3, g3, h3, p3, q3, u3, v3⟩ := K3.out
                                have hlaw := panel_law (B : Int) (A : Int) (lev l 0) (lev l 1) (lev l 2) (lev l 3) 3 (by simp)
                                have hls := lev_sums l 3
                                have hb1 := tR_bd hco.1.1 hco.1.2 hco.2.1 hco.2.2 3
                                have hb2 := tI_bd hco.1.1 hco.1.2 hco.2.1 hco.2.2 3
                                obtain ⟨m1, m2, m3, m4, w, z, a1, a2, a3, a4, a5, a6, c1, c2⟩ := place_floats f3 g3 p3 q3 u3 v3 hb1 hb2 hls.1 hls.2 hlaw.1 hlaw.2
                                have d1 : Op.floatEq .f64 E3 E3 = true := by rw [f3]; exact fl_same _
                                have d2 : Op.floatEq .f64 H3 (Op.negFloat .f64 G3) = true := by rw [h3, g3]; exact neg_eq hb2.1 hb2.2
                                clear hlaw hls hb1 hb2 f3 g3 h3 p3 q3 u3 v3
                                repeat first | refine lwp_seq fun K hK => ?_ | ((with_reducible refine thenS_normal ?_); apply_assumption -exfalso -symm) | refine thenS_exit ?_ | refine thenS_ret ?_ | refine inBlockS_normal ?_ | refine inBlockS_ret ?_ | refine inBlockS_hit rfl ?_ | refine inBlockS_miss rfl ?_ | refine lwp_block ?_ | refine lwp_skip ?_ | refine lwp_exit ?_ | refine lwp_ret ?_ | refine lwp_label ?_ | refine lwp_region hC ⟨[], [], []⟩ (told0 _ _) rfl True.intro ?_
                                (refine lwp_cond hC rfl (by first | exact True.intro | ((try simp only [AllL, All, cd_p, cp_p, cv_p, InK, and_true, true_and]); all_goals ((repeat' (first | refine And.intro ?_ ?_ | intro _)) <;> first | omega | exact True.intro | assumption | (simp; done) | rfl | (simp_all; done) | (simp_all; omega)))) (fun hb => ?_) (fun hb => ?_) <;> (try simp only [decide_eq_true_eq, decide_eq_false_iff_not, Bool.not_eq_true', Bool.not_eq_false', ne_eq, Decidable.not_not] at hb))
                                · clear hb
                                  repeat first | refine lwp_seq fun K hK => ?_ | ((with_reducible refine thenS_normal ?_); apply_assumption -exfalso -symm) | refine thenS_exit ?_ | refine thenS_ret ?_ | refine inBlockS_normal ?_ | refine inBlockS_ret ?_ | refine inBlockS_hit rfl ?_ | refine inBlockS_miss rfl ?_ | refine lwp_block ?_ | refine lwp_skip ?_ | refine lwp_exit ?_ | refine lwp_ret ?_ | refine lwp_label ?_ | refine lwp_region hC ⟨[], [], []⟩ (told0 _ _) rfl True.intro ?_
                                  (refine lwp_drawn2 hC (by rw [hP]; exact mixed) ⟨[], [], []⟩ (told0 _ _) [0, 1, 3, 7, 0, 16, 48, 112, 255, 511, 1023, 2047, 4095, 8191, 1023, 17407, 50175, 115711, 246783, 524287, 1048575] 21 0 rfl ?_ ?_; rotate_left 1)
                                  · repeat first | refine lwp_seq fun K hK => ?_ | ((with_reducible refine thenS_normal ?_); apply_assumption -exfalso -symm) | refine thenS_exit ?_ | refine thenS_ret ?_ | refine inBlockS_normal ?_ | refine inBlockS_ret ?_ | refine inBlockS_hit rfl ?_ | refine inBlockS_miss rfl ?_ | refine lwp_block ?_ | refine lwp_skip ?_ | refine lwp_exit ?_ | refine lwp_ret ?_ | refine lwp_label ?_ | refine lwp_region hC ⟨[], [], []⟩ (told0 _ _) rfl True.intro ?_
                                    (refine lwp_cond hC rfl (by first | exact True.intro | ((try simp only [AllL, All, cd_p, cp_p, cv_p, InK, and_true, true_and]); all_goals ((repeat' (first | refine And.intro ?_ ?_ | intro _)) <;> first | omega | exact True.intro | assumption | (simp; done) | rfl | (simp_all; done) | (simp_all; omega)))) (fun hb => ?_) (fun hb => ?_) <;> (try simp only [decide_eq_true_eq, decide_eq_false_iff_not, Bool.not_eq_true', Bool.not_eq_false', ne_eq, Decidable.not_not] at hb))
                                    · exact (both_no d1 d2 hb).elim
                                    clear hb
                                    repeat first | refine lwp_seq fun K hK => ?_ | ((with_reducible refine thenS_normal ?_); apply_assumption -exfalso -symm) | refine thenS_exit ?_ | refine thenS_ret ?_ | refine inBlockS_normal ?_ | refine inBlockS_ret ?_ | refine inBlockS_hit rfl ?_ | refine inBlockS_miss rfl ?_ | refine lwp_block ?_ | refine lwp_skip ?_ | refine lwp_exit ?_ | refine lwp_ret ?_ | refine lwp_label ?_
                                    (refine lwp_drawn2 hC (by rw [hP]; exact mixed) ⟨[], [], []⟩ (told0 _ _) [0, 1, 3, 7, 0, 16, 48, 112, 255, 0, 512, 1536, 3584, 0, 8192, 24576, 57344, 130560, 262143, 524287] 20 0 rfl ?_ ?_; rotate_left 1)
                                    · simp only [a1, a2, a5, Option.getD_some]
                                      repeat first | refine lwp_seq fun K hK => ?_ | ((with_reducible refine thenS_normal ?_); apply_assumption -exfalso -symm) | refine thenS_exit ?_ | refine thenS_ret ?_ | refine inBlockS_normal ?_ | refine inBlockS_ret ?_ | refine inBlockS_hit rfl ?_ | refine inBlockS_miss rfl ?_ | refine lwp_block ?_ | refine lwp_skip ?_ | refine lwp_exit ?_ | refine lwp_ret ?_ | refine lwp_label ?_
                                      (refine lwp_drawn2 hC (by rw [hP]; exact mixed) ⟨[], [], []⟩ (told0 _ _) [0, 1, 3, 7, 0, 16, 48, 112, 255, 0, 512, 1536, 3584, 0, 8192, 24576, 57344, 130560, 262143, 524287] 20 0 rfl ?_ ?_; rotate_left 1)
                                      · simp only [a3, a4, a6, Option.getD_some]
                                        repeat first | refine lwp_seq fun K hK => ?_ | ((with_reducible refine thenS_normal ?_); apply_assumption -exfalso -symm) | refine thenS_exit ?_ | refine thenS_ret ?_ | refine inBlockS_normal ?_ | refine inBlockS_ret ?_ | refine inBlockS_hit rfl ?_ | refine inBlockS_miss rfl ?_ | refine lwp_block ?_ | refine lwp_skip ?_ | refine lwp_exit ?_ | refine lwp_ret ?_ | refine lwp_label ?_ | refine lwp_region hC ⟨[], [], []⟩ (told0 _ _) rfl True.intro ?_ | refine lwp_region hC ⟨[], [], []⟩ (told0 _ _) rfl (by ((try simp only [AllL, All, cd_p, cp_p, cv_p, InK, and_true, true_and]); all_goals ((repeat' (first | refine And.intro ?_ ?_ | intro _)) <;> first | omega | exact True.intro | assumption | (simp; done) | rfl | (simp_all; done) | (simp_all; omega)))) ?_
                                        (refine lwp_cond hC rfl (by first | exact True.intro | ((try simp only [AllL, All, cd_p, cp_p, cv_p, InK, and_true, true_and]); all_goals ((repeat' (first | refine And.intro ?_ ?_ | intro _)) <;> first | omega | exact True.intro | assumption | (simp; done) | rfl | (simp_all; done) | (simp_all; omega)))) (fun hb => ?_) (fun hb => ?_) <;> (try simp only [decide_eq_true_eq, decide_eq_false_iff_not, Bool.not_eq_true', Bool.not_eq_false', ne_eq, Decidable.not_not] at hb))
                                        · exact (both_no c1 c2 hb).elim
                                        clear hb
                                        repeat first | refine lwp_seq fun K hK => ?_ | ((with_reducible refine thenS_normal ?_); apply_assumption -exfalso -symm) | refine thenS_exit ?_ | refine thenS_ret ?_ | refine inBlockS_normal ?_ | refine inBlockS_ret ?_ | refine inBlockS_hit rfl ?_ | refine inBlockS_miss rfl ?_ | refine lwp_block ?_ | refine lwp_skip ?_ | refine lwp_exit ?_ | refine lwp_ret ?_ | refine lwp_label ?_ | refine lwp_region hC ⟨[], [], []⟩ (told0 _ _) rfl True.intro ?_ | refine lwp_region hC ⟨[], [], []⟩ (told0 _ _) rfl (by (simp only [AllL, All, cd_p, cp_p, cv_p, InK]; (repeat' (first | refine And.intro ?_ ?_ | intro _)) <;> first | omega | exact True.intro | rfl)) ?_
                                        refine thenS_normal ⟨4, ?_, ?_, sub_intro hm [(0, some 0), (8, some 8), (12, some 12), (23, some 23), (25, some 25)] rfl ?_⟩
                                        · omega
                                        · omega
                                        · simp only [All, cd_p, cp_p, cv_p]
                                          (repeat' refine And.intro ?_ ?_) <;> first | exact True.intro | rfl | omega
                                      · simp only [AllL, All, cd_p, cp_p, cv_p, InK, a3, a4, a6, Option.getD_some, Option.isSome_some]
                                        (repeat' (first | refine And.intro ?_ ?_ | intro _)) <;> first | omega | exact True.intro | rfl
                                    · simp only [AllL, All, cd_p, cp_p, cv_p, InK, a1, a2, a5, Option.getD_some, Option.isSome_some]
                                      (repeat' (first | refine And.intro ?_ ?_ | intro _)) <;> first | omega | exact True.intro | rfl
                                  · simp only [AllL, All, cd_p, cp_p, cv_p, InK]
                                    (repeat' (first | refine And.intro ?_ ?_ | intro _)) <;> first | exact True.intro | (rw [d1]; rfl) | omega | rfl
                                · omega
                              repeat first | refine lwp_seq fun K hK => ?_ | ((with_reducible refine thenS_normal ?_); apply_assumption -exfalso -symm) | refine thenS_exit ?_ | refine thenS_ret ?_ | refine inBlockS_normal ?_ | refine inBlockS_ret ?_ | refine inBlockS_hit rfl ?_ | refine inBlockS_miss rfl ?_ | refine lwp_block ?_ | refine lwp_skip ?_ | refine lwp_exit ?_ | refine lwp_ret ?_ | refine lwp_label ?_ | refine lwp_region hC ⟨[], [], []⟩ (told0 _ _) rfl True.intro ?_
                              (refine lwp_cond hC rfl (by first | exact True.intro | ((try simp only [AllL, All, cd_p, cp_p, cv_p, InK, and_true, true_and]); all_goals ((repeat' (first | refine And.intro ?_ ?_ | intro _)) <;> first | omega | exact True.intro | assumption | (simp; done) | rfl | (simp_all; done) | (simp_all; omega)))) (fun hb => ?_) (fun hb => ?_) <;> (try simp only [decide_eq_true_eq, decide_eq_false_iff_not, Bool.not_eq_true', Bool.not_eq_false', ne_eq, Decidable.not_not] at hb))
                              · omega
                              clear hb
                              repeat first | refine lwp_seq fun K hK => ?_ | ((with_reducible refine thenS_normal ?_); apply_assumption -exfalso -symm) | refine thenS_exit ?_ | refine thenS_ret ?_ | refine inBlockS_normal ?_ | refine inBlockS_ret ?_ | refine inBlockS_hit rfl ?_ | refine inBlockS_miss rfl ?_ | refine lwp_block ?_ | refine lwp_skip ?_ | refine lwp_exit ?_ | refine lwp_ret ?_ | refine lwp_label ?_ | refine lwp_region hC ⟨[], [], []⟩ (told0 _ _) rfl True.intro ?_
                              (refine lwp_region hC ⟨[], [], [(0, Awake_i [(0, some 0)])]⟩ (told1 _ (by rw [hP]; exact (calls_cons (Awake_s _) calls_nil))) rfl ?_ ?_; rotate_left 1)
                              · repeat first | refine lwp_seq fun K hK => ?_ | ((with_reducible refine thenS_normal ?_); apply_assumption -exfalso -symm) | refine thenS_exit ?_ | refine thenS_ret ?_ | refine inBlockS_normal ?_ | refine inBlockS_ret ?_ | refine inBlockS_hit rfl ?_ | refine inBlockS_miss rfl ?_ | refine lwp_block ?_ | refine lwp_skip ?_ | refine lwp_exit ?_ | refine lwp_ret ?_ | refine lwp_label ?_ | refine lwp_region hC ⟨[], [], []⟩ (told0 _ _) rfl True.intro ?_
                                (refine end_intro (by first | exact .inr rfl | exact .inl rfl) [] rfl ?_)
                                ((try simp only [AllL, All, cd_p, cp_p, cv_p, InK, and_true, true_and]); all_goals ((repeat' (first | refine And.intro ?_ ?_ | intro _)) <;> first | omega | exact True.intro | assumption | (simp; done) | rfl | (simp_all; done) | (simp_all; omega)))
                              · (simp only [AllL, All, cd_p, cp_p, cv_p, InK]; (repeat' (first | refine And.intro ?_ ?_ | intro _)) <;> first | omega | exact True.intro | rfl)
                            · simp only [AllL, All, cd_p, cp_p, cv_p, InK, List.length_cons, List.length_nil]
                              (repeat' (first | refine And.intro ?_ ?_ | intro _)) <;> first | exact True.intro | rfl | assumption | omega | (simp; done) | contradiction | (simp_all; done)
                          · simp only [AllL, All, cd_p, cp_p, cv_p, InK, List.length_cons, List.length_nil]
                            (repeat' (first | refine And.intro ?_ ?_ | intro _)) <;> first | exact True.intro | rfl | assumption | omega | (simp; done) | contradiction | (simp_all; done)
                        · simp only [AllL, All, cd_p, cp_p, cv_p, InK, List.length_cons, List.length_nil]
                          (repeat' (first | refine And.intro ?_ ?_ | intro _)) <;> first | exact True.intro | rfl | assumption | omega | (simp; done) | contradiction | (simp_all; done)
                      · simp only [AllL, All, cd_p, cp_p, cv_p, InK, List.length_cons, List.length_nil]
                        (repeat' (first | refine And.intro ?_ ?_ | intro _)) <;> first | exact True.intro | rfl | assumption | omega | (simp; done) | contradiction | (simp_all; done)
                    · (simp only [AllL, All, cd_p, cp_p, cv_p, InK]; (repeat' (first | refine And.intro ?_ ?_ | intro _)) <;> first | omega | exact True.intro | rfl)
                  · (simp only [AllL, All, cd_p, cp_p, cv_p, InK]; (repeat' (first | refine And.intro ?_ ?_ | intro _)) <;> first | omega | exact True.intro | rfl)
                · (simp only [AllL, All, cd_p, cp_p, cv_p, InK]; (repeat' (first | refine And.intro ?_ ?_ | intro _)) <;> first | omega | exact True.intro | rfl)
              · simp only [AllL, All, cd_p, cp_p, cv_p, InK, List.length_cons, List.length_nil]
                (repeat' (first | refine And.intro ?_ ?_ | intro _)) <;> first | exact True.intro | rfl | assumption | omega | (simp; done) | contradiction | (simp_all; done)
            · (simp only [AllL, All, cd_p, cp_p, cv_p, InK]; (repeat' (first | refine And.intro ?_ ?_ | intro _)) <;> first | omega | exact True.intro | rfl)
          · (simp only [AllL, All, cd_p, cp_p, cv_p, InK]; (repeat' (first | refine And.intro ?_ ?_ | intro _)) <;> first | omega | exact True.intro | rfl)
        · (simp only [AllL, All, cd_p, cp_p, cv_p, InK]; (repeat' (first | refine And.intro ?_ ?_ | intro _)) <;> first | omega | exact True.intro | rfl)
      · simp only [AllL, All, cd_p, cp_p, cv_p, InK, List.length_cons, List.length_nil]
        (repeat' (first | refine And.intro ?_ ?_ | intro _)) <;> first | exact True.intro | rfl | assumption | omega | (simp; done) | contradiction | (simp_all; done)
    · (simp only [AllL, All, cd_p, cp_p, cv_p, InK]; (repeat' (first | refine And.intro ?_ ?_ | intro _)) <;> first | omega | exact True.intro | rfl)
  · simp only [AllL, All, cd_p, cp_p, cv_p, InK, List.length_cons, List.length_nil]
    (repeat' (first | refine And.intro ?_ ?_ | intro _)) <;> first | exact True.intro | rfl | assumption | omega | (simp; done) | contradiction | (simp_all; done)

end Go.Proofs.YtbpffadffbgloaaDoor
