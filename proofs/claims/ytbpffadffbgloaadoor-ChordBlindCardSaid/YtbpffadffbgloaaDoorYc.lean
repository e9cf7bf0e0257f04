/- Contract: Panel of the program. -/
import Derived.Test.YtbpffadffbgloaaDoorYa
import Derived.Test.YtbpffadffbgloaaDoorYb
set_option linter.unusedVariables false
set_option linter.unusedSimpArgs false
namespace Go.Proofs.YtbpffadffbgloaaDoor
open Go.RowKit Go.Sym

/-- A difference of integers that may wrap. -/
def custWSub : Custom := ⟨fun o l => match o.op, l with
  | .binOp .sub t _ _ _, [.lit (.int .i64 a), .lit (.int .i64 b)] => match Nat.beq t 3 with
    | true => some (.lit (.int .i64 (IntKind.i64.wrap (a - b))))
    | false => none
  | _, _ => none⟩
theorem custWSub_ok : custWSub.ok Tryd.prog := by
  intro o l r h ρ w e vs hd hv
  dsimp only [custWSub] at h
  split at h
  · rename_i t x y yt a b ho
    split at h
    · rename_i ht
      cases Nat.eq_of_beq_eq_true ht
      cases h
      simp only [AV.denL, AV.den, listO, Option.map_some, Option.some.injEq] at hd
      subst hd
      rw [ho] at hv
      simp only [Op.operands, List.map_cons, List.map_nil, List.cons.injEq, and_true] at hv
      obtain ⟨e1, e2⟩ := hv
      refine ⟨_, rfl, ?_⟩
      have hb : binV Tryd.prog .sub 3 (.int .i64 a) (.int .i64 b) = some (.int .i64 (IntKind.i64.wrap (a - b))) := rfl
      have := binV_run hb x y w
      simp only [execOp, ho, Sem.run_bind, e1, e2] at this ⊢
      rw [this]
      rfl
    · cases h
  · cases h
def PEndW_i (t : Tr) (σ : Ren) : Inst := { f := 95, hin := trIn t, args := [trA 0 1 t], hout := [], ret := i64 (wrap64 (t.first + t.vals.length)), σ := σ }
theorem PEndW_s (t : Tr) (σ : Ren) : (PEndW_i t σ).ok Tryd.prog := by
  refine ⟨⟨_, Tryd.func95, rfl⟩, fun ρ w vs hdom _ hh hd => ?_⟩
  obtain ⟨L1, L2, p1, p2, hr⟩ := tr_args (i := 0) (j := 1) hh rfl rfl
  simp only [PEndW_i, trA, AV.denL, AV.den, p1, p2, Option.map_some, listO, Option.some.injEq] at hd
  subst hd
  obtain ⟨A, c, e1, e2, e3⟩ := hr.1.slice
  cases e1
  refine (end_c t.first L1.ad t.vals.length L1.cap _ w e2 e3).mono ?_
  rintro e w' ⟨rfl, hb⟩
  exact post_of_lit hb
theorem wrap64_id {n : Int} (h0 : -9223372036854775808 ≤ n) (h1 : n ≤ 9223372036854775807) : wrap64 n = n := by unfold wrap64; omega
theorem wrap_id {n : Int} (h0 : -9223372036854775808 ≤ n) (h1 : n ≤ 9223372036854775807) : IntKind.i64.wrap n = n := InK.wrap ⟨h0, h1⟩

/-- Is there no panel at a place. -/
def wEnd (t : Tr) : Int := IntKind.i64.wrap (wrap64 (t.first + t.vals.length) - 4)
def pnB (t : Tr) (p : Int) : Bool := decide (p < t.first) || decide (wEnd t < p)
def pnH (t : Tr) (p : Int) : Int := firstS [traceS t, whenS (pnB t p) 10]
def pnK (t : Tr) (p : Int) : Bool := kP t p && kP t (p + 1) && kP t (p + 2) && kP t (p + 3)
def panE (t : Tr) (p : Int) : Int := if pnH t p ≠ 0 then pnH t p else if pnK t p = true then 0 else 7
def panL (t : Tr) (p : Int) : List Int := [vP t p, vP t (p + 1), vP t (p + 2), vP t (p + 3)]
def pnA (t : Tr) (p : Int) (k : Nat) : AV := cxA (if panE t p = 0 then fl (fR (panL t p) k 4) else 0) (if panE t p = 0 then fl (fI (panL t p) k 4) else 0)
theorem pnH_ok {t : Tr} {p : Int} (h : pnH t p = 0) : traceS t = 0 ∧ t.first ≤ p ∧ p + 4 ≤ t.first + t.vals.length := by
  unfold pnH at h
  rw [firstS_eq] at h
  have h1 := h (traceS t) (by simp)
  have h2 := h (whenS (pnB t p) 10) (by simp)
  have hok := traceS_ok h1
  have f0 := hok.f0
  have f1 := hok.f1
  have t2 := hok.len
  rw [whenS_eq _ _ (by decide)] at h2
  unfold pnB at h2
  rw [Bool.or_eq_false_iff, decide_eq_false_iff_not, decide_eq_false_iff_not] at h2
  unfold wEnd at h2
  rw [wrap64_id (by omega) (by omega), wrap_id (by omega) (by omega)] at h2
  exact ⟨h1, by omega, by omega⟩
theorem vP_bound {t : Tr} (h : traceS t = 0) (p : Int) : -1073741824 ≤ vP t p ∧ vP t p ≤ 1073741824 := by
  have hv := (traceS_ok h).val
  unfold vP
  by_cases h : (p - t.first).toNat < t.vals.length
  · rw [List.getD_eq_getElem?_getD, List.getElem?_eq_getElem h]; exact hv _ (List.getElem_mem h)
  · rw [List.getD_eq_getElem?_getD, List.getElem?_eq_none (by omega)]; exact ⟨by decide, by decide⟩
def panIn (t : Tr) : List (Nat × Chunk) := [(0, powC), (1, .ro t.vals.length 1 (.ints .i64 t.vals)), (2, .ro t.holes.length 2 (spC t.holes))]
def pnI (t : Tr) (p : Int) (k : Nat) (j : Nat) : AV := i64 (if j < k then vP t (p + (j : Int)) else 0)
def PPanel_i (t : Tr) (p : Int) (σ : Ren) : Inst := { f := 53, gl := powG, hin := panIn t, args := [trA 1 2 t, i64 p], hout := [], ret := .tup [.agg [pnA t p 0, pnA t p 1, pnA t p 2, pnA t p 3], i64 (panE t p)], σ := σ }
set_option maxRecDepth 20000 in
set_option maxHeartbeats 8000000 in
theorem PPanel_s (t : Tr) (p : Int) (σ : Ren) : (PPanel_i t p σ).ok Tryd.prog := by
  unfold PPanel_i Inst.ok; dsimp only; refine spec_of_body (tys := tys) 3 Tryd.func53 (by kernel_rfl) rfl tys_ok rfl (Nat.le_of_ble_eq_true rfl) (fun g i h => by simp only [List.mem_cons, List.not_mem_nil, or_false, Prod.mk.injEq] at h; omega) fun F hP hm hC => ?_; conv => whnf
  repeat first | refine lwp_seq fun K hK => ?_ | ((with_reducible refine thenS_normal ?_); apply_assumption -exfalso -symm) | refine thenS_exit ?_ | refine thenS_ret ?_ | refine inBlockS_normal ?_ | refine inBlockS_ret ?_ | refine inBlockS_hit rfl ?_ | refine inBlockS_miss rfl ?_ | refine lwp_block ?_ | refine lwp_skip ?_ | refine lwp_exit ?_ | refine lwp_ret ?_ | refine lwp_label ?_ | refine lwp_region hC ⟨[], [], []⟩ (told0 _ _) rfl True.intro ?_ | refine lwp_region hC ⟨[], [], []⟩ (told0 _ _) rfl (by ((try simp only [AllL, All, cd_p, cp_p, cv_p, InK, and_true, true_and]); all_goals ((repeat' (first | refine And.intro ?_ ?_ | intro _)) <;> first | omega | exact True.intro | assumption | (simp; done) | rfl | (simp_all; done) | (simp_all; omega)))) ?_
  by_cases hp : p < t.first
  · have hB : pnB t p = true := by unfold pnB; rw [decide_eq_true hp]; rfl
    have hE : panE t p = firstS [traceS t, whenS true 10] := by
      unfold panE pnH
      rw [hB, if_pos]
      rw [firstS_two]
      split
      · decide
      · assumption
    have hN : firstS [traceS t, whenS true 10] ≠ 0 := by
      rw [firstS_two]
      split
      · decide
      · assumption
    (refine lwp_drawn hC (by rw [hP]; exact mixed) ⟨[(6, { b := some true }), (7, { g := some false }), (8, { g := some false }), (9, { g := some false }), (10, { g := some false }), (11, { g := some false })], [], [(1, PCheckTrace_i t [(0, some 1), (1, some 2)]), (13, PWhen_i true 10), (15, PFirst_i [traceS t, whenS true 10] [(0, some 5)])]⟩ (told1 _ (by rw [hP]; exact (calls_cons (PCheckTrace_s _ _) (calls_cons (PWhen_s _ _) (calls_cons (PFirst_s _ _) calls_nil))))) [0, 1, 0, 0, 8, 28, 63, 127, 127, 383, 895, 2047, 4095, 8191, 16383, 32767, 65535] 11 rfl ?_ ?_; rotate_left 1)
    · repeat first | refine lwp_seq fun K hK => ?_ | ((with_reducible refine thenS_normal ?_); apply_assumption -exfalso -symm) | refine thenS_exit ?_ | refine thenS_ret ?_ | refine inBlockS_normal ?_ | refine inBlockS_ret ?_ | refine inBlockS_hit rfl ?_ | refine inBlockS_miss rfl ?_ | refine lwp_block ?_ | refine lwp_skip ?_ | refine lwp_exit ?_ | refine lwp_ret ?_ | refine lwp_label ?_ | refine lwp_region hC ⟨[], [], []⟩ (told0 _ _) rfl True.intro ?_
      (refine lwp_cond hC rfl (by first | exact True.intro | ((try simp only [AllL, All, cd_p, cp_p, cv_p, InK, and_true, true_and]); all_goals ((repeat' (first | refine And.intro ?_ ?_ | intro _)) <;> first | omega | exact True.intro | assumption | (simp; done) | rfl | (simp_all; done) | (simp_all; omega)))) (fun hb => ?_) (fun hb => ?_) <;> (try simp only [decide_eq_true_eq, decide_eq_false_iff_not, Bool.not_eq_true', Bool.not_eq_false', ne_eq, Decidable.not_not] at hb))
      · repeat first | refine lwp_seq fun K hK => ?_ | ((with_reducible refine thenS_normal ?_); apply_assumption -exfalso -symm) | refine thenS_exit ?_ | refine thenS_ret ?_ | refine inBlockS_normal ?_ | refine inBlockS_ret ?_ | refine inBlockS_hit rfl ?_ | refine inBlockS_miss rfl ?_ | refine lwp_block ?_ | refine lwp_skip ?_ | refine lwp_exit ?_ | refine lwp_ret ?_ | refine lwp_label ?_ | refine lwp_region hC ⟨[], [], []⟩ (told0 _ _) rfl True.intro ?_
        unfold pnA
        rw [hE]
        simp only [hN, if_false]
        (refine end_intro (by first | exact .inr rfl | exact .inl rfl) [] rfl ?_)
        ((try simp only [AllL, All, cd_p, cp_p, cv_p, InK, and_true, true_and]); all_goals ((repeat' (first | refine And.intro ?_ ?_ | intro _)) <;> first | omega | exact True.intro | assumption | (simp; done) | rfl | (simp_all; done) | (simp_all; omega)))
      · exact absurd hb hN
    · simp only [AllL, All, cd_p, cp_p, cv_p, InK, List.length_cons, List.length_nil]
      (repeat' refine And.intro ?_ ?_) <;> first | trivial | rfl | omega | exact decide_eq_true hp | simp
  · have hB : pnB t p = decide (wEnd t < p) := by unfold pnB; rw [decide_eq_false hp]; rfl
    (refine lwp_drawn hC (by rw [hP]; exact mixed) ⟨[(6, { b := some false })], [(10, custWSub)], [(1, PCheckTrace_i t [(0, some 1), (1, some 2)]), (9, PEndW_i t [(0, some 1), (1, some 2)]), (13, PWhen_i (pnB t p) 10), (15, PFirst_i [traceS t, whenS (pnB t p) 10] [(0, some 5)])]⟩ ⟨(fun p hp => by rcases List.mem_cons.1 hp with rfl | hp; rw [hP]; exact custWSub_ok; cases hp), (by rw [hP]; exact (calls_cons (PCheckTrace_s _ _) (calls_cons (PEndW_s _ _) (calls_cons (PWhen_s _ _) (calls_cons (PFirst_s _ _) calls_nil)))))⟩ [0, 1, 0, 0, 8, 28, 63, 127, 127, 383, 895, 2047, 4095, 8191, 16383, 32767, 65535] 11 rfl ?_ ?_; rotate_left 1)
    · repeat first | refine lwp_seq fun K hK => ?_ | ((with_reducible refine thenS_normal ?_); apply_assumption -exfalso -symm) | refine thenS_exit ?_ | refine thenS_ret ?_ | refine inBlockS_normal ?_ | refine inBlockS_ret ?_ | refine inBlockS_hit rfl ?_ | refine inBlockS_miss rfl ?_ | refine lwp_block ?_ | refine lwp_skip ?_ | refine lwp_exit ?_ | refine lwp_ret ?_ | refine lwp_label ?_ | refine lwp_region hC ⟨[], [], []⟩ (told0 _ _) rfl True.intro ?_
      (refine lwp_cond hC rfl (by first | exact True.intro | ((try simp only [AllL, All, cd_p, cp_p, cv_p, InK, and_true, true_and]); all_goals ((repeat' (first | refine And.intro ?_ ?_ | intro _)) <;> first | omega | exact True.intro | assumption | (simp; done) | rfl | (simp_all; done) | (simp_all; omega)))) (fun hb => ?_) (fun hb => ?_) <;> (try simp only [decide_eq_true_eq, decide_eq_false_iff_not, Bool.not_eq_true', Bool.not_eq_false', ne_eq, Decidable.not_not] at hb))
      · have hE : panE t p = pnH t p := if_pos hb
        have hN : ¬ panE t p = 0 := by rw [hE]; exact hb
        repeat first | refine lwp_seq fun K hK => ?_ | ((with_reducible refine thenS_normal ?_); apply_assumption -exfalso -symm) | refine thenS_exit ?_ | refine thenS_ret ?_ | refine inBlockS_normal ?_ | refine inBlockS_ret ?_ | refine inBlockS_hit rfl ?_ | refine inBlockS_miss rfl ?_ | refine lwp_block ?_ | refine lwp_skip ?_ | refine lwp_exit ?_ | refine lwp_ret ?_ | refine lwp_label ?_ | refine lwp_region hC ⟨[], [], []⟩ (told0 _ _) rfl True.intro ?_
        unfold pnA
        simp only [hN, if_false]
        rw [hE]
        unfold pnH
        (refine end_intro (by first | exact .inr rfl | exact .inl rfl) [] rfl ?_)
        ((try simp only [AllL, All, cd_p, cp_p, cv_p, InK, and_true, true_and]); all_goals ((repeat' (first | refine And.intro ?_ ?_ | intro _)) <;> first | omega | exact True.intro | assumption | (simp; done) | rfl | (simp_all; done) | (simp_all; omega)))
      · have hz : pnH t p = 0 := hb
        have hzo := pnH_ok hz
        obtain ⟨ht, z1, z2⟩ := hzo
        have hok := traceS_ok ht
        have f0 := hok.f0
        have f1 := hok.f1
        have t2 := hok.len
        clear hb
        repeat first | refine lwp_seq fun K hK => ?_ | ((with_reducible refine thenS_normal ?_); apply_assumption -exfalso -symm) | refine thenS_exit ?_ | refine thenS_ret ?_ | refine inBlockS_normal ?_ | refine inBlockS_ret ?_ | refine inBlockS_hit rfl ?_ | refine inBlockS_miss rfl ?_ | refine lwp_block ?_ | refine lwp_skip ?_ | refine lwp_exit ?_ | refine lwp_ret ?_ | refine lwp_label ?_ | refine lwp_region hC ⟨[], [], []⟩ (told0 _ _) rfl True.intro ?_
        (refine lwp_region hC ⟨[], [], [(1, PRead_i t [(0, some 1), (1, some 2)])]⟩ (told1 _ (by rw [hP]; exact (calls_cons (PRead_s _ _ t2 hok.holes) calls_nil))) rfl ?_ ?_; rotate_left 1)
        · repeat first | refine lwp_seq fun K hK => ?_ | ((with_reducible refine thenS_normal ?_); apply_assumption -exfalso -symm) | refine thenS_exit ?_ | refine thenS_ret ?_ | refine inBlockS_normal ?_ | refine inBlockS_ret ?_ | refine inBlockS_hit rfl ?_ | refine inBlockS_miss rfl ?_ | refine lwp_block ?_ | refine lwp_skip ?_ | refine lwp_exit ?_ | refine lwp_ret ?_ | refine lwp_label ?_ | refine lwp_region hC ⟨[], [], []⟩ (told0 _ _) rfl True.intro ?_
          refine lwp_loop (fun k : Nat => ⟨[(34, i64 k), (8, .ptr 7 0 0 0), (7, .ptr 6 0 0 0), (4, .ptr 4 0 0 0), (2, .ptr 3 0 0 0), (1, i64 p)], [(7, .blk 141 [pnI t p k 0, pnI t p k 1, pnI t p k 2, pnI t p k 3]), (6, .blk 112 [i64 t.first, .sl 1 t.vals.length, .sl 2 t.holes.length, .sl 5 t.vals.length]), (5, .row 4 t.vals.length 1 (.bools (knS t.vals.length t.holes))), (4, .blk 53 [cxA 0 0, cxA 0 0, cxA 0 0, cxA 0 0]), (3, .blk 30 [i64 t.first, .sl 1 t.vals.length, .sl 2 t.holes.length]), (0, powC), (1, .ro t.vals.length 1 (.ints .i64 t.vals)), (2, .ro t.holes.length 2 (spC t.holes))], 8⟩) (fun k => k ≤ 4 ∧ ∀ j : Nat, j < k → kP t (p + (j : Int)) = true) (fun k => 4 - k) 0 ⟨?_, sub_intro hm [(0, some 0), (1, some 1), (2, some 2), (3, some 3), (4, some 4), (5, some 6), (6, some 7), (7, some 9)] rfl ?_⟩ ?_
          · exact ⟨by omega, fun j hj => absurd hj (Nat.not_lt_zero _)⟩
          · ((try simp only [AllL, All, cd_p, cp_p, cv_p, InK, and_true, true_and]); all_goals ((repeat' (first | refine And.intro ?_ ?_ | intro _)) <;> first | omega | exact True.intro | assumption | (simp; done) | rfl | (simp_all; done) | (simp_all; omega)))
          rintro k ⟨hk, hf⟩
          have HF := Lib.hid hf
          clear hf
          repeat first | refine lwp_seq fun K hK => ?_ | ((with_reducible refine thenS_normal ?_); apply_assumption -exfalso -symm) | refine thenS_exit ?_ | refine thenS_ret ?_ | refine inBlockS_normal ?_ | refine inBlockS_ret ?_ | refine inBlockS_hit rfl ?_ | refine inBlockS_miss rfl ?_ | refine lwp_block ?_ | refine lwp_skip ?_ | refine lwp_exit ?_ | refine lwp_ret ?_ | refine lwp_label ?_ | refine lwp_region hC ⟨[], [], []⟩ (told0 _ _) rfl True.intro ?_
          (refine lwp_cond hC rfl (by first | exact True.intro | ((try simp only [AllL, All, cd_p, cp_p, cv_p, InK, and_true, true_and]); all_goals ((repeat' (first | refine And.intro ?_ ?_ | intro _)) <;> first | omega | exact True.intro | assumption | (simp; done) | rfl | (simp_all; done) | (simp_all; omega)))) (fun hb => ?_) (fun hb => ?_) <;> (try simp only [decide_eq_true_eq, decide_eq_false_iff_not, Bool.not_eq_true', Bool.not_eq_false', ne_eq, Decidable.not_not] at hb))
          · have hk4 : k < 4 := by omega
            clear hb
            repeat first | refine lwp_seq fun K hK => ?_ | ((with_reducible refine thenS_normal ?_); apply_assumption -exfalso -symm) | refine thenS_exit ?_ | refine thenS_ret ?_ | refine inBlockS_normal ?_ | refine inBlockS_ret ?_ | refine inBlockS_hit rfl ?_ | refine inBlockS_miss rfl ?_ | refine lwp_block ?_ | refine lwp_skip ?_ | refine lwp_exit ?_ | refine lwp_ret ?_ | refine lwp_label ?_ | refine lwp_region hC ⟨[], [], []⟩ (told0 _ _) rfl True.intro ?_
            (refine lwp_region hC ⟨[], [], [(4, RdAt_i t (p + (k : Int)) [(0, some 1), (1, some 2), (2, some 5)])]⟩ (told1 _ (by rw [hP]; exact (calls_cons (RdAt_s _ _ _ f0 f1 (by omega) (by omega) (by omega)) calls_nil))) rfl ?_ ?_; rotate_left 1)
            · repeat first | refine lwp_seq fun K hK => ?_ | ((with_reducible refine thenS_normal ?_); apply_assumption -exfalso -symm) | refine thenS_exit ?_ | refine thenS_ret ?_ | refine inBlockS_normal ?_ | refine inBlockS_ret ?_ | refine inBlockS_hit rfl ?_ | refine inBlockS_miss rfl ?_ | refine lwp_block ?_ | refine lwp_skip ?_ | refine lwp_exit ?_ | refine lwp_ret ?_ | refine lwp_label ?_ | refine lwp_region hC ⟨[], [], []⟩ (told0 _ _) rfl True.intro ?_
              cases hkn : kP t (p + (k : Int)) with
              | true =>
                (refine lwp_cond hC rfl (by first | exact True.intro | ((try simp only [AllL, All, cd_p, cp_p, cv_p, InK, and_true, true_and]); all_goals ((repeat' (first | refine And.intro ?_ ?_ | intro _)) <;> first | omega | exact True.intro | assumption | (simp; done) | rfl | (simp_all; done) | (simp_all; omega)))) (fun hb => ?_) (fun hb => ?_) <;> (try simp only [decide_eq_true_eq, decide_eq_false_iff_not, Bool.not_eq_true', Bool.not_eq_false', ne_eq, Decidable.not_not] at hb))
                · exact absurd hb (by simp)
                · clear hb
                  have hall : ∀ j : Nat, j < k + 1 → kP t (p + (j : Int)) = true := by
                    intro j hj
                    by_cases e : j = k
                    · subst e; exact hkn
                    · exact HF.out j (by omega)
                  have HA := Lib.hid hall
                  clear hall hkn
                  obtain rfl | rfl | rfl | rfl : k = 0 ∨ k = 1 ∨ k = 2 ∨ k = 3 := by omega
                  · repeat first | refine lwp_seq fun K hK => ?_ | ((with_reducible refine thenS_normal ?_); apply_assumption -exfalso -symm) | refine thenS_exit ?_ | refine thenS_ret ?_ | refine inBlockS_normal ?_ | refine inBlockS_ret ?_ | refine inBlockS_hit rfl ?_ | refine inBlockS_miss rfl ?_ | refine lwp_block ?_ | refine lwp_skip ?_ | refine lwp_exit ?_ | refine lwp_ret ?_ | refine lwp_label ?_ | refine lwp_region hC ⟨[], [], []⟩ (told0 _ _) rfl True.intro ?_ | refine lwp_region hC ⟨[], [], []⟩ (told0 _ _) rfl (by ((try simp only [AllL, All, cd_p, cp_p, cv_p, InK, and_true, true_and]); all_goals ((repeat' (first | refine And.intro ?_ ?_ | intro _)) <;> first | omega | exact True.intro | assumption | (simp; done) | rfl | (simp_all; done) | (simp_all; omega)))) ?_
                    refine thenS_normal ⟨1, ?_, ?_, sub_intro hm [(0, some 0), (1, some 1), (2, some 2), (3, some 3), (4, some 4), (5, some 5), (6, some 6), (7, some 7)] rfl ?_⟩
                    · exact ⟨by omega, HA.out⟩
                    · omega
                    · simp only [All, cd_p, cp_p, cv_p]
                      (repeat' refine And.intro ?_ ?_) <;> first | trivial | rfl | omega
                  · repeat first | refine lwp_seq fun K hK => ?_ | ((with_reducible refine thenS_normal ?_); apply_assumption -exfalso -symm) | refine thenS_exit ?_ | refine thenS_ret ?_ | refine inBlockS_normal ?_ | refine inBlockS_ret ?_ | refine inBlockS_hit rfl ?_ | refine inBlockS_miss rfl ?_ | refine lwp_block ?_ | refine lwp_skip ?_ | refine lwp_exit ?_ | refine lwp_ret ?_ | refine lwp_label ?_ | refine lwp_region hC ⟨[], [], []⟩ (told0 _ _) rfl True.intro ?_ | refine lwp_region hC ⟨[], [], []⟩ (told0 _ _) rfl (by ((try simp only [AllL, All, cd_p, cp_p, cv_p, InK, and_true, true_and]); all_goals ((repeat' (first | refine And.intro ?_ ?_ | intro _)) <;> first | omega | exact True.intro | assumption | (simp; done) | rfl | (simp_all; done) | (simp_all; omega)))) ?_
                    refine thenS_normal ⟨2, ?_, ?_, sub_intro hm [(0, some 0), (1, some 1), (2, some 2), (3, some 3), (4, some 4), (5, some 5), (6, some 6), (7, some 7)] rfl ?_⟩
                    · exact ⟨by omega, HA.out⟩
                    · omega
                    · simp only [All, cd_p, cp_p, cv_p]
                      (repeat' refine And.intro ?_ ?_) <;> first | trivial | rfl | omega
                  · repeat first | refine lwp_seq fun K hK => ?_ | ((with_reducible refine thenS_normal ?_); apply_assumption -exfalso -symm) | refine thenS_exit ?_ | refine thenS_ret ?_ | refine inBlockS_normal ?_ | refine inBlockS_ret ?_ | refine inBlockS_hit rfl ?_ | refine inBlockS_miss rfl ?_ | refine lwp_block ?_ | refine lwp_skip ?_ | refine lwp_exit ?_ | refine lwp_ret ?_ | refine lwp_label ?_ | refine lwp_region hC ⟨[], [], []⟩ (told0 _ _) rfl True.intro ?_ | refine lwp_region hC ⟨[], [], []⟩ (told0 _ _) rfl (by ((try simp only [AllL, All, cd_p, cp_p, cv_p, InK, and_true, true_and]); all_goals ((repeat' (first | refine And.intro ?_ ?_ | intro _)) <;> first | omega | exact True.intro | assumption | (simp; done) | rfl | (simp_all; done) | (simp_all; omega)))) ?_
                    refine thenS_normal ⟨3, ?_, ?_, sub_intro hm [(0, some 0), (1, some 1), (2, some 2), (3, some 3), (4, some 4), (5, some 5), (6, some 6), (7, some 7)] rfl ?_⟩
                    · exact ⟨by omega, HA.out⟩
                    · omega
                    · simp only [All, cd_p, cp_p, cv_p]
                      (repeat' refine And.intro ?_ ?_) <;> first | trivial | rfl | omega
                  · repeat first | refine lwp_seq fun K hK => ?_ | ((with_reducible refine thenS_normal ?_); apply_assumption -exfalso -symm) | refine thenS_exit ?_ | refine thenS_ret ?_ | refine inBlockS_normal ?_ | refine inBlockS_ret ?_ | refine inBlockS_hit rfl ?_ | refine inBlockS_miss rfl ?_ | refine lwp_block ?_ | refine lwp_skip ?_ | refine lwp_exit ?_ | refine lwp_ret ?_ | refine lwp_label ?_ | refine lwp_region hC ⟨[], [], []⟩ (told0 _ _) rfl True.intro ?_ | refine lwp_region hC ⟨[], [], []⟩ (told0 _ _) rfl (by ((try simp only [AllL, All, cd_p, cp_p, cv_p, InK, and_true, true_and]); all_goals ((repeat' (first | refine And.intro ?_ ?_ | intro _)) <;> first | omega | exact True.intro | assumption | (simp; done) | rfl | (simp_all; done) | (simp_all; omega)))) ?_
                    refine thenS_normal ⟨4, ?_, ?_, sub_intro hm [(0, some 0), (1, some 1), (2, some 2), (3, some 3), (4, some 4), (5, some 5), (6, some 6), (7, some 7)] rfl ?_⟩
                    · exact ⟨by omega, HA.out⟩
                    · omega
                    · simp only [All, cd_p, cp_p, cv_p]
                      (repeat' refine And.intro ?_ ?_) <;> first | trivial | rfl | omega
              | false =>
                have hK : pnK t p = false := by
                  unfold pnK
                  obtain rfl | rfl | rfl | rfl : k = 0 ∨ k = 1 ∨ k = 2 ∨ k = 3 := by omega
                  · have : kP t p = false := by rw [← Int.add_zero p]; exact hkn
                    rw [this]; rfl
                  · have : kP t (p + 1) = false := hkn
                    rw [this]; simp
                  · have : kP t (p + 2) = false := hkn
                    rw [this]; simp
                  · have : kP t (p + 3) = false := hkn
                    rw [this]; simp
                have hE : panE t p = 7 := by unfold panE; rw [if_neg (by rw [hz]; decide), hK]; rfl
                (refine lwp_cond hC rfl (by first | exact True.intro | ((try simp only [AllL, All, cd_p, cp_p, cv_p, InK, and_true, true_and]); all_goals ((repeat' (first | refine And.intro ?_ ?_ | intro _)) <;> first | omega | exact True.intro | assumption | (simp; done) | rfl | (simp_all; done) | (simp_all; omega)))) (fun hb => ?_) (fun hb => ?_) <;> (try simp only [decide_eq_true_eq, decide_eq_false_iff_not, Bool.not_eq_true', Bool.not_eq_false', ne_eq, Decidable.not_not] at hb))
                · repeat first | refine lwp_seq fun K hK => ?_ | ((with_reducible refine thenS_normal ?_); apply_assumption -exfalso -symm) | refine thenS_exit ?_ | refine thenS_ret ?_ | refine inBlockS_normal ?_ | refine inBlockS_ret ?_ | refine inBlockS_hit rfl ?_ | refine inBlockS_miss rfl ?_ | refine lwp_block ?_ | refine lwp_skip ?_ | refine lwp_exit ?_ | refine lwp_ret ?_ | refine lwp_label ?_ | refine lwp_region hC ⟨[], [], []⟩ (told0 _ _) rfl True.intro ?_
                  unfold pnA
                  rw [hE]
                  (refine end_intro (by first | exact .inr rfl | exact .inl rfl) [] rfl ?_)
                  ((try simp only [AllL, All, cd_p, cp_p, cv_p, InK, and_true, true_and]); all_goals ((repeat' (first | refine And.intro ?_ ?_ | intro _)) <;> first | omega | exact True.intro | assumption | (simp; done) | rfl | (simp_all; done) | (simp_all; omega)))
                · exact absurd hb (by simp)
            · ((try simp only [AllL, All, cd_p, cp_p, cv_p, InK, and_true, true_and]); all_goals ((repeat' (first | refine And.intro ?_ ?_ | intro _)) <;> first | omega | exact True.intro | assumption | (simp; done) | rfl | (simp_all; done) | (simp_all; omega)))
          · obtain rfl : k = 4 := by omega
            have hK : pnK t p = true := by
              have k0 := HF.out 0 (by omega)
              have k1 := HF.out 1 (by omega)
              have k2 := HF.out 2 (by omega)
              have k3 := HF.out 3 (by omega)
              have k0' : kP t p = true := by rw [← Int.add_zero p]; exact k0
              have k1' : kP t (p + 1) = true := k1
              have k2' : kP t (p + 2) = true := k2
              have k3' : kP t (p + 3) = true := k3
              unfold pnK
              rw [k0', k1', k2', k3']; rfl
            have hE : panE t p = 0 := by unfold panE; rw [if_neg (by rw [hz]; decide), if_pos hK]
            have hp0 : p + ((0 : Nat) : Int) = p := Int.add_zero p
            clear hb
            repeat first | refine lwp_seq fun K hK => ?_ | ((with_reducible refine thenS_normal ?_); apply_assumption -exfalso -symm) | refine thenS_exit ?_ | refine thenS_ret ?_ | refine inBlockS_normal ?_ | refine inBlockS_ret ?_ | refine inBlockS_hit rfl ?_ | refine inBlockS_miss rfl ?_ | refine lwp_block ?_ | refine lwp_skip ?_ | refine lwp_exit ?_ | refine lwp_ret ?_ | refine lwp_label ?_ | refine lwp_region hC ⟨[], [], []⟩ (told0 _ _) rfl True.intro ?_
            (refine lwp_region hC ⟨[], [], [(1, Four_i (vP t p) (vP t (p + 1)) (vP t (p + 2)) (vP t (p + 3)) [(0, some 0)])]⟩ (told1 _ (by rw [hP]; exact (calls_cons (Four_s _ _ _ _ _ (vP_bound ht _) (vP_bound ht _) (vP_bound ht _) (vP_bound ht _)) calls_nil))) rfl ?_ ?_; rotate_left 1)
            · repeat first | refine lwp_seq fun K hK => ?_ | ((with_reducible refine thenS_normal ?_); apply_assumption -exfalso -symm) | refine thenS_exit ?_ | refine thenS_ret ?_ | refine inBlockS_normal ?_ | refine inBlockS_ret ?_ | refine inBlockS_hit rfl ?_ | refine inBlockS_miss rfl ?_ | refine lwp_block ?_ | refine lwp_skip ?_ | refine lwp_exit ?_ | refine lwp_ret ?_ | refine lwp_label ?_ | refine lwp_region hC ⟨[], [], []⟩ (told0 _ _) rfl True.intro ?_
              unfold pnA
              simp only [hE, if_true]
              unfold panL
              (refine end_intro (by first | exact .inr rfl | exact .inl rfl) [] rfl ?_)
              ((try simp only [AllL, All, cd_p, cp_p, cv_p, InK, and_true, true_and]); all_goals ((repeat' (first | refine And.intro ?_ ?_ | intro _)) <;> first | omega | exact True.intro | assumption | (simp; done) | rfl | (simp_all; done) | (simp_all; omega)))
            · simp only [AllL, All, cd_p, cp_p, cv_p, InK, hp0]
              (repeat' refine And.intro ?_ ?_) <;> first | trivial | rfl | omega
        · ((try simp only [AllL, All, cd_p, cp_p, cv_p, InK, and_true, true_and]); all_goals ((repeat' (first | refine And.intro ?_ ?_ | intro _)) <;> first | omega | exact True.intro | assumption | (simp; done) | rfl | (simp_all; done) | (simp_all; omega)))
    · simp only [AllL, All, cd_p, cp_p, cv_p, InK, List.length_cons, List.length_nil]
      (repeat' (first | refine And.intro ?_ ?_ | intro _)) <;> first | trivial | rfl | omega | exact decide_eq_false hp | exact hB.symm | exact hB | simp

end Go.Proofs.YtbpffadffbgloaaDoor
