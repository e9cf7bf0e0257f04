/- Contracts of the reference, in the runs' style: summed. -/
import Derived.Test.YtbpffadffbgloaaGreatDoorRd
set_option linter.unusedVariables false
set_option linter.unusedSimpArgs false
namespace Go.Proofs.YtbpffadffbgloaaGreatDoor
open Go.RowKit Go.Sym

theorem mul_small {a b : Int} (h1 : -4096 ≤ a) (h2 : a ≤ 4096) (h3 : -1073741824 ≤ b) (h4 : b ≤ 1073741824) : -4398046511104 ≤ a * b ∧ a * b ≤ 4398046511104 := by
  have h := Int.natAbs_mul a b
  have h5 : a.natAbs ≤ 4096 := by omega
  have h6 : b.natAbs ≤ 1073741824 := by omega
  have h7 := Nat.mul_le_mul h5 h6
  generalize a * b = c at *
  generalize a.natAbs * b.natAbs = d at *
  omega
/-- What 'summed' may be given. -/
structure SumOk (t : Tr) (ws : List Int) (before after step : Int) : Prop where
  f0 : 0 ≤ t.first
  f1 : t.first ≤ 100000000
  len : t.vals.length ≤ 4096
  hol : t.holes.length ≤ 1000000
  val : ∀ x ∈ t.vals, -1073741824 ≤ x ∧ x ≤ 1073741824
  wl : ws.length ≤ 200
  wv : ∀ k : Nat, -4096 ≤ ws.getD k 0 ∧ ws.getD k 0 ≤ 4096
  b0 : 0 ≤ before
  b1 : before ≤ 1000000
  a0 : 0 ≤ after
  a1 : after ≤ 1000000
  s0 : 0 ≤ step
  s1 : step ≤ 100
  reach : ∀ k : Nat, k < ws.length → 0 ≤ (k : Int) * step ∧ (k : Int) * step ≤ before + after
theorem values_small {t : Tr} (h : ∀ x ∈ t.vals, -1073741824 ≤ x ∧ x ≤ 1073741824) (q : Nat) : -1073741824 ≤ ((valuesS t.vals t.holes).getD q (0, false)).1 ∧ ((valuesS t.vals t.holes).getD q (0, false)).1 ≤ 1073741824 := by
  by_cases hq : q < t.vals.length
  · rw [valuesS_get _ _ _ hq]
    simp only [List.getD_eq_getElem?_getD, List.getElem?_eq_getElem hq, Option.getD_some]
    exact h _ (List.getElem_mem hq)
  · have : (valuesS t.vals t.holes).getD q (0, false) = (0, false) := by
      rw [List.getD_eq_getElem?_getD, List.getElem?_eq_none (by rw [valuesS_len]; omega)]; rfl
    rw [this]; exact ⟨by decide, by decide⟩
/-- A part of a sum. -/
def wpart (vs : List (Int × Bool)) (ws : List Int) (step : Int) (q k : Nat) : Int × Bool := (List.range k).foldl (wstep vs ws q step) (0, true)
theorem wpart_succ (vs : List (Int × Bool)) (ws : List Int) (step : Int) (q k : Nat) : wpart vs ws step q (k + 1) = wstep vs ws q step (wpart vs ws step q k) k := by
  unfold wpart; rw [List.range_succ, List.foldl_append]; rfl
theorem wpart_small {t : Tr} {ws : List Int} {before after step : Int} (h : SumOk t ws before after step) (q : Nat) : ∀ k : Nat, -(4398046511104 * (k : Int)) ≤ (wpart (valuesS t.vals t.holes) ws step q k).1 ∧ (wpart (valuesS t.vals t.holes) ws step q k).1 ≤ 4398046511104 * (k : Int)
  | 0 => by simp [wpart]
  | k + 1 => by
    rw [wpart_succ]
    have ih := wpart_small h q k
    have h1 := h.wv k
    have h2 := values_small h.val ((q : Int) + (k : Int) * step).toNat
    have h3 := mul_small h1.1 h1.2 h2.1 h2.2
    unfold wstep
    split
    · omega
    · dsimp only; omega
theorem summedL_get (vs : List (Int × Bool)) (ws : List Int) (before after step : Int) (i : Nat) (h : i < (summedL vs ws before after step).length) : (summedL vs ws before after step).getD i (0, false) = wpart vs ws step i ws.length := by
  rw [summedL_len] at h
  simp [summedL, h, wsum, wpart]

def Summed_i (t : Tr) (ws : List Int) (before after step : Int) (σ : Ren) : Inst :=
  { f := 116, hin := [(0, .ro t.vals.length 1 (.ints .i64 t.vals)), (1, .ro t.holes.length 2 (spC t.holes)), (2, .ro ws.length 1 (.ints .i64 ws))], args := [trA 0 1 t, .sl 2 ws.length, i64 before, i64 after, i64 step],
    hout := trW 3 (summedS t.first (valuesS t.vals t.holes) ws before after step), ret := trR 3 (summedS t.first (valuesS t.vals t.holes) ws before after step), σ := σ }

set_option maxRecDepth 20000 in
set_option maxHeartbeats 2000000 in
theorem Summed_s (t : Tr) (ws : List Int) (before after step : Int) (σ : Ren) (h : SumOk t ws before after step) : (Summed_i t ws before after step σ).ok Tryz.prog := by
  obtain ⟨hf0, hf1, hlen, hhol, hval, hwl, hwv, hb0, hb1, ha0, ha1, hs0, hs1, hreach⟩ := id h
  have hVl := valuesS_len t.vals t.holes
  have hLl := summedL_len (valuesS t.vals t.holes) ws before after step
  unfold Summed_i Inst.ok; dsimp only; refine spec_of_body (tys := tys) 3 Tryz.func116 (by kernel_rfl) rfl tys_ok rfl (Nat.le_of_ble_eq_true rfl) (fun _ _ h => (by cases h)) fun F hP hm hC => ?_; conv => whnf
  (repeat (first | (refine lwp_seq fun K hK => ?_) | (refine thenS_normal ?_; apply_assumption -exfalso -symm) | (refine thenS_exit ?_) | (refine thenS_ret ?_) | (refine inBlockS_normal ?_) | (refine inBlockS_ret ?_) | (refine inBlockS_hit rfl ?_) | (refine inBlockS_miss rfl ?_) | (refine lwp_block ?_) | (refine lwp_skip ?_) | (refine lwp_exit ?_) | (refine lwp_ret ?_) | (refine lwp_label ?_) | (refine lwp_region hC ⟨[], [], []⟩ (told0 _ _) rfl True.intro ?_) | (refine lwp_region hC ⟨[], [], []⟩ (told0 _ _) rfl (by ((try simp only [AllL, All, cd_p, cp_p, cv_p, InK, and_true, true_and]); all_goals ((repeat' (first | refine And.intro ?_ ?_ | intro _)) <;> first | omega | exact True.intro | assumption | (simp; done) | rfl | (simp_all; done) | (simp_all; omega)))) ?_)))
  (refine lwp_region hC ⟨[], [], [(1, Values_i t [(0, some 0), (1, some 1)])]⟩ (told1 _ (by rw [hP]; exact (calls_cons (Values_s _ _ (by omega) (by omega)) calls_nil))) rfl ?_ ?_; rotate_left 1)
  · (repeat (first | (refine lwp_seq fun K hK => ?_) | (refine thenS_normal ?_; apply_assumption -exfalso -symm) | (refine thenS_exit ?_) | (refine thenS_ret ?_) | (refine inBlockS_normal ?_) | (refine inBlockS_ret ?_) | (refine inBlockS_hit rfl ?_) | (refine inBlockS_miss rfl ?_) | (refine lwp_block ?_) | (refine lwp_skip ?_) | (refine lwp_exit ?_) | (refine lwp_ret ?_) | (refine lwp_label ?_) | (refine lwp_region hC ⟨[], [], []⟩ (told0 _ _) rfl True.intro ?_) | (refine lwp_region hC ⟨[], [], []⟩ (told0 _ _) rfl (by ((try simp only [AllL, All, cd_p, cp_p, cv_p, InK, and_true, true_and]); all_goals ((repeat' (first | refine And.intro ?_ ?_ | intro _)) <;> first | omega | exact True.intro | assumption | (simp; done) | rfl | (simp_all; done) | (simp_all; omega)))) ?_)))
    generalize hV : valuesS t.vals t.holes = V at *
    generalize hL : summedL V ws before after step = L at *
    refine lwp_loop (fun i : Nat => ⟨[(14, i64 (before + i)), (13, .sl 6 i), (12, .sl 5 V.length), (10, .ptr 4 0 0 0), (5, .ptr 3 0 0 0), (4, i64 step), (3, i64 after), (2, i64 before), (1, .sl 2 ws.length)], [(6, .row 140 i 2 (vaC (L.take i))), (5, .row 140 V.length 2 (vaC V)), (4, .blk 25 [i64 0, .lit (.slice none 0 0), .lit (.slice none 0 0)]), (3, .blk 25 [i64 t.first, .sl 0 t.vals.length, .sl 1 t.holes.length]), (2, .ro ws.length 1 (.ints .i64 ws)), (0, .ro t.vals.length 1 (.ints .i64 t.vals)), (1, .ro t.holes.length 2 (spC t.holes))], 7⟩) (fun i => i ≤ L.length) (fun i => L.length - i) 0 ⟨?_, sub_intro hm [(0, some 0), (1, some 1), (2, some 2), (3, some 3), (4, some 4), (5, some 5), (6, none)] rfl ?_⟩ ?_
    · exact Nat.zero_le _
    · ((try simp only [AllL, All, cd_p, cp_p, cv_p, InK, and_true, true_and]); all_goals ((repeat' (first | refine And.intro ?_ ?_ | intro _)) <;> first | omega | exact True.intro | assumption | (simp; done) | rfl | (simp_all; done) | (simp_all; omega)))
    · rintro i hi
      (repeat (first | (refine lwp_seq fun K hK => ?_) | (refine thenS_normal ?_; apply_assumption -exfalso -symm) | (refine thenS_exit ?_) | (refine thenS_ret ?_) | (refine inBlockS_normal ?_) | (refine inBlockS_ret ?_) | (refine inBlockS_hit rfl ?_) | (refine inBlockS_miss rfl ?_) | (refine lwp_block ?_) | (refine lwp_skip ?_) | (refine lwp_exit ?_) | (refine lwp_ret ?_) | (refine lwp_label ?_) | (refine lwp_region hC ⟨[], [], []⟩ (told0 _ _) rfl True.intro ?_) | (refine lwp_region hC ⟨[], [], []⟩ (told0 _ _) rfl (by ((try simp only [AllL, All, cd_p, cp_p, cv_p, InK, and_true, true_and]); all_goals ((repeat' (first | refine And.intro ?_ ?_ | intro _)) <;> first | omega | exact True.intro | assumption | (simp; done) | rfl | (simp_all; done) | (simp_all; omega)))) ?_)))
      (refine lwp_cond hC rfl (by first | exact True.intro | ((try simp only [AllL, All, cd_p, cp_p, cv_p, InK, and_true, true_and]); all_goals ((repeat' (first | refine And.intro ?_ ?_ | intro _)) <;> first | omega | exact True.intro | assumption | (simp; done) | rfl | (simp_all; done) | (simp_all; omega)))) (fun hb => ?_) (fun hb => ?_) <;> (try simp only [decide_eq_true_eq, decide_eq_false_iff_not, Bool.not_eq_true', Bool.not_eq_false', ne_eq, Decidable.not_not] at hb))
      · have hi2 : i < L.length := by omega
        (repeat (first | (refine lwp_seq fun K hK => ?_) | (refine thenS_normal ?_; apply_assumption -exfalso -symm) | (refine thenS_exit ?_) | (refine thenS_ret ?_) | (refine inBlockS_normal ?_) | (refine inBlockS_ret ?_) | (refine inBlockS_hit rfl ?_) | (refine inBlockS_miss rfl ?_) | (refine lwp_block ?_) | (refine lwp_skip ?_) | (refine lwp_exit ?_) | (refine lwp_ret ?_) | (refine lwp_label ?_) | (refine lwp_region hC ⟨[], [], []⟩ (told0 _ _) rfl True.intro ?_) | (refine lwp_region hC ⟨[], [], []⟩ (told0 _ _) rfl (by ((try simp only [AllL, All, cd_p, cp_p, cv_p, InK, and_true, true_and]); all_goals ((repeat' (first | refine And.intro ?_ ?_ | intro _)) <;> first | omega | exact True.intro | assumption | (simp; done) | rfl | (simp_all; done) | (simp_all; omega)))) ?_)))
        refine lwp_loop (fun k : Nat => ⟨[(16, i64 k), (15, .ptr 7 0 0 0), (14, i64 (before + i)), (13, .sl 6 i), (12, .sl 5 V.length), (10, .ptr 4 0 0 0), (5, .ptr 3 0 0 0), (4, i64 step), (3, i64 after), (2, i64 before), (1, .sl 2 ws.length)], [(7, .blk 140 [i64 (wpart V ws step i k).1, bl (wpart V ws step i k).2]), (6, .row 140 i 2 (vaC (L.take i))), (5, .row 140 V.length 2 (vaC V)), (4, .blk 25 [i64 0, .lit (.slice none 0 0), .lit (.slice none 0 0)]), (3, .blk 25 [i64 t.first, .sl 0 t.vals.length, .sl 1 t.holes.length]), (2, .ro ws.length 1 (.ints .i64 ws)), (0, .ro t.vals.length 1 (.ints .i64 t.vals)), (1, .ro t.holes.length 2 (spC t.holes))], 8⟩) (fun k => k ≤ ws.length) (fun k => ws.length - k) 0 ⟨?_, sub_intro hm [(0, some 0), (1, some 1), (2, some 2), (3, some 3), (4, some 4), (5, some 5), (6, some 6), (7, some 7)] rfl ?_⟩ ?_
        · exact Nat.zero_le _
        · ((try simp only [AllL, All, cd_p, cp_p, cv_p, InK, and_true, true_and]); all_goals ((repeat' (first | refine And.intro ?_ ?_ | intro _)) <;> first | omega | exact True.intro | assumption | (simp; done) | rfl | (simp_all; done) | (simp_all; omega)))
        · rintro k hk
          have hkk : ((k : Int)).toNat = k := Int.toNat_natCast k
          (repeat (first | (refine lwp_seq fun K hK => ?_) | (refine thenS_normal ?_; apply_assumption -exfalso -symm) | (refine thenS_exit ?_) | (refine thenS_ret ?_) | (refine inBlockS_normal ?_) | (refine inBlockS_ret ?_) | (refine inBlockS_hit rfl ?_) | (refine inBlockS_miss rfl ?_) | (refine lwp_block ?_) | (refine lwp_skip ?_) | (refine lwp_exit ?_) | (refine lwp_ret ?_) | (refine lwp_label ?_) | (refine lwp_region hC ⟨[], [], []⟩ (told0 _ _) rfl True.intro ?_) | (refine lwp_region hC ⟨[], [], []⟩ (told0 _ _) rfl (by ((try simp only [AllL, All, cd_p, cp_p, cv_p, InK, and_true, true_and]); all_goals ((repeat' (first | refine And.intro ?_ ?_ | intro _)) <;> first | omega | exact True.intro | assumption | (simp; done) | rfl | (simp_all; done) | (simp_all; omega)))) ?_)))
          (refine lwp_cond hC rfl (by first | exact True.intro | ((try simp only [AllL, All, cd_p, cp_p, cv_p, InK, and_true, true_and]); all_goals ((repeat' (first | refine And.intro ?_ ?_ | intro _)) <;> first | omega | exact True.intro | assumption | (simp; done) | rfl | (simp_all; done) | (simp_all; omega)))) (fun hb => ?_) (fun hb => ?_) <;> (try simp only [decide_eq_true_eq, decide_eq_false_iff_not, Bool.not_eq_true', Bool.not_eq_false', ne_eq, Decidable.not_not] at hb))
          · have hk2 : k < ws.length := by omega
            have hr := hreach k hk2
            have hw := hwv k
            have hx := values_small hval ((i : Int) + (k : Int) * step).toNat
            rw [hV] at hx
            have hp := mul_small hw.1 hw.2 hx.1 hx.2
            have hq := wpart_small h i k
            rw [hV] at hq
            have hqe : before + (i : Int) - before + (k : Int) * step = (i : Int) + (k : Int) * step := by omega
            have hws := wpart_succ V ws step i k
            (repeat (first | (refine lwp_seq fun K hK => ?_) | (refine thenS_normal ?_; apply_assumption -exfalso -symm) | (refine thenS_exit ?_) | (refine thenS_ret ?_) | (refine inBlockS_normal ?_) | (refine inBlockS_ret ?_) | (refine inBlockS_hit rfl ?_) | (refine inBlockS_miss rfl ?_) | (refine lwp_block ?_) | (refine lwp_skip ?_) | (refine lwp_exit ?_) | (refine lwp_ret ?_) | (refine lwp_label ?_) | (refine lwp_region hC ⟨[], [], []⟩ (told0 _ _) rfl True.intro ?_) | (refine lwp_region hC ⟨[], [], []⟩ (told0 _ _) rfl (by ((try simp only [AllL, All, cd_p, cp_p, cv_p, InK, and_true, true_and]); all_goals ((repeat' (first | refine And.intro ?_ ?_ | intro _)) <;> first | omega | exact True.intro | assumption | (simp; done) | rfl | (simp_all; done) | (simp_all; omega)))) ?_)))
            (refine lwp_cond hC rfl (by first | exact True.intro | ((try simp only [AllL, All, cd_p, cp_p, cv_p, InK, and_true, true_and]); all_goals ((repeat' (first | refine And.intro ?_ ?_ | intro _)) <;> first | omega | exact True.intro | assumption | (simp; done) | rfl | (simp_all; done) | (simp_all; omega)))) (fun hb => ?_) (fun hb => ?_) <;> (try simp only [decide_eq_true_eq, decide_eq_false_iff_not, Bool.not_eq_true', Bool.not_eq_false', ne_eq, Decidable.not_not] at hb))
            · rw [hkk] at hb
              have hws2 : wpart V ws step i (k + 1) = ((wpart V ws step i k).1 + ws.getD k 0 * (V.getD ((i : Int) + (k : Int) * step).toNat (0, false)).1, (wpart V ws step i k).2 && (V.getD ((i : Int) + (k : Int) * step).toNat (0, false)).2) := by rw [hws]; unfold wstep; rw [if_neg hb]
              (repeat (first | (refine lwp_seq fun K hK => ?_) | (refine thenS_normal ?_; apply_assumption -exfalso -symm) | (refine thenS_exit ?_) | (refine thenS_ret ?_) | (refine inBlockS_normal ?_) | (refine inBlockS_ret ?_) | (refine inBlockS_hit rfl ?_) | (refine inBlockS_miss rfl ?_) | (refine lwp_block ?_) | (refine lwp_skip ?_) | (refine lwp_exit ?_) | (refine lwp_ret ?_) | (refine lwp_label ?_) | (refine lwp_region hC ⟨[], [], []⟩ (told0 _ _) rfl True.intro ?_) | (refine lwp_region hC ⟨[], [], []⟩ (told0 _ _) rfl (by ((try simp only [AllL, All, cd_p, cp_p, cv_p, InK, and_true, true_and]); all_goals ((repeat' (first | refine And.intro ?_ ?_ | intro _)) <;> first | omega | exact True.intro | assumption | (simp; done) | rfl | (simp_all; done) | (simp_all; omega)))) ?_)))
              clear hws
              (refine lwp_drawn hC (by rw [hP]; exact mixed) ⟨[], [], []⟩ (told0 _ _) [0, 1, 0, 0, 12, 28, 0, 64, 252, 511, 1023, 2047] 9 rfl ?_ ?_; rotate_left 1)
              · (repeat (first | (refine lwp_seq fun K hK => ?_) | (refine thenS_normal ?_; apply_assumption -exfalso -symm) | (refine thenS_exit ?_) | (refine thenS_ret ?_) | (refine inBlockS_normal ?_) | (refine inBlockS_ret ?_) | (refine inBlockS_hit rfl ?_) | (refine inBlockS_miss rfl ?_) | (refine lwp_block ?_) | (refine lwp_skip ?_) | (refine lwp_exit ?_) | (refine lwp_ret ?_) | (refine lwp_label ?_) | (refine lwp_region hC ⟨[], [], []⟩ (told0 _ _) rfl True.intro ?_) | (refine lwp_region hC ⟨[], [], []⟩ (told0 _ _) rfl (by ((try simp only [AllL, All, cd_p, cp_p, cv_p, InK, and_true, true_and]); all_goals ((repeat' (first | refine And.intro ?_ ?_ | intro _)) <;> first | omega | exact True.intro | assumption | (simp; done) | rfl | (simp_all; done) | (simp_all; omega)))) ?_)))
                refine thenS_normal ⟨k + 1, ?_, ?_, sub_intro hm [(0, some 0), (1, some 1), (2, some 2), (3, some 3), (4, some 4), (5, some 5), (6, some 6), (7, some 7)] rfl ?_⟩
                · omega
                · omega
                · rw [hws2, hkk, hqe, bif_and]
                  simp only [All, cd_p, cp_p, cv_p]
                  (repeat' refine And.intro ?_ ?_) <;> first | omega | trivial | rfl
              · rw [hkk, hqe]
                clear hws2
                simp only [AllL, All, cd_p, cp_p, cv_p, InK]
                (repeat' refine And.intro ?_ ?_) <;> first | omega | trivial | rfl
            · rw [hkk] at hb
              have hws2 : wpart V ws step i (k + 1) = wpart V ws step i k := by rw [hws]; unfold wstep; rw [if_pos hb]
              clear hws
              (repeat (first | (refine lwp_seq fun K hK => ?_) | (refine thenS_normal ?_; apply_assumption -exfalso -symm) | (refine thenS_exit ?_) | (refine thenS_ret ?_) | (refine inBlockS_normal ?_) | (refine inBlockS_ret ?_) | (refine inBlockS_hit rfl ?_) | (refine inBlockS_miss rfl ?_) | (refine lwp_block ?_) | (refine lwp_skip ?_) | (refine lwp_exit ?_) | (refine lwp_ret ?_) | (refine lwp_label ?_) | (refine lwp_region hC ⟨[], [], []⟩ (told0 _ _) rfl True.intro ?_) | (refine lwp_region hC ⟨[], [], []⟩ (told0 _ _) rfl (by ((try simp only [AllL, All, cd_p, cp_p, cv_p, InK, and_true, true_and]); all_goals ((repeat' (first | refine And.intro ?_ ?_ | intro _)) <;> first | omega | exact True.intro | assumption | (simp; done) | rfl | (simp_all; done) | (simp_all; omega)))) ?_)))
              refine thenS_normal ⟨k + 1, ?_, ?_, sub_intro hm [(0, some 0), (1, some 1), (2, some 2), (3, some 3), (4, some 4), (5, some 5), (6, some 6), (7, some 7)] rfl ?_⟩
              · omega
              · omega
              · rw [hws2]
                clear hws2 hr hw hx hp hq hqe
                simp only [All, cd_p, cp_p, cv_p]
                (repeat' refine And.intro ?_ ?_) <;> first | omega | trivial | rfl
          · have hk3 : k = ws.length := by omega
            subst hk3
            (repeat (first | (refine lwp_seq fun K hK => ?_) | (refine thenS_normal ?_; apply_assumption -exfalso -symm) | (refine thenS_exit ?_) | (refine thenS_ret ?_) | (refine inBlockS_normal ?_) | (refine inBlockS_ret ?_) | (refine inBlockS_hit rfl ?_) | (refine inBlockS_miss rfl ?_) | (refine lwp_block ?_) | (refine lwp_skip ?_) | (refine lwp_exit ?_) | (refine lwp_ret ?_) | (refine lwp_label ?_) | (refine lwp_region hC ⟨[], [], []⟩ (told0 _ _) rfl True.intro ?_) | (refine lwp_region hC ⟨[], [], []⟩ (told0 _ _) rfl (by ((try simp only [AllL, All, cd_p, cp_p, cv_p, InK, and_true, true_and]); all_goals ((repeat' (first | refine And.intro ?_ ?_ | intro _)) <;> first | omega | exact True.intro | assumption | (simp; done) | rfl | (simp_all; done) | (simp_all; omega)))) ?_)))
            refine thenS_normal ⟨i + 1, ?_, ?_, sub_intro hm [(0, some 0), (1, some 1), (2, some 2), (3, some 3), (4, some 4), (5, some 5), (6, some 9)] rfl ?_⟩
            · omega
            · omega
            · have e := vaC_snoc (L.take i) (L.getD i (0, false))
              rw [← take_snoc _ _ _ hi2] at e
              have e3 : L.getD i (0, false) = wpart V ws step i ws.length := by rw [← hL]; exact summedL_get _ _ _ _ _ _ (by rw [hL]; exact hi2)
              rw [e3] at e
              have e2 : (vaC (L.take (i + 1))).cells = (catC (vaC (L.take i)) (Cont.exp [i64 (wpart V ws step i ws.length).1, bl (wpart V ws step i ws.length).2])).cells := by rw [catC_cells, e]; rfl
              clear e e3
              simp only [All, cd_p, cp_p, cv_p]
              (repeat' refine And.intro ?_ ?_) <;> first | exact e2 | omega | trivial | rfl
      · have hi3 : i = L.length := by omega
        subst hi3
        rw [List.take_length]
        (repeat (first | (refine lwp_seq fun K hK => ?_) | (refine thenS_normal ?_; apply_assumption -exfalso -symm) | (refine thenS_exit ?_) | (refine thenS_ret ?_) | (refine inBlockS_normal ?_) | (refine inBlockS_ret ?_) | (refine inBlockS_hit rfl ?_) | (refine inBlockS_miss rfl ?_) | (refine lwp_block ?_) | (refine lwp_skip ?_) | (refine lwp_exit ?_) | (refine lwp_ret ?_) | (refine lwp_label ?_) | (refine lwp_region hC ⟨[], [], []⟩ (told0 _ _) rfl True.intro ?_) | (refine lwp_region hC ⟨[], [], []⟩ (told0 _ _) rfl (by ((try simp only [AllL, All, cd_p, cp_p, cv_p, InK, and_true, true_and]); all_goals ((repeat' (first | refine And.intro ?_ ?_ | intro _)) <;> first | omega | exact True.intro | assumption | (simp; done) | rfl | (simp_all; done) | (simp_all; omega)))) ?_)))
        (refine lwp_cond hC rfl (by first | exact True.intro | ((try simp only [AllL, All, cd_p, cp_p, cv_p, InK, and_true, true_and]); all_goals ((repeat' (first | refine And.intro ?_ ?_ | intro _)) <;> first | omega | exact True.intro | assumption | (simp; done) | rfl | (simp_all; done) | (simp_all; omega)))) (fun hb => ?_) (fun hb => ?_) <;> (try simp only [decide_eq_true_eq, decide_eq_false_iff_not, Bool.not_eq_true', Bool.not_eq_false', ne_eq, Decidable.not_not] at hb))
        · have hT : summedS t.first V ws before after step = (⟨0, [], []⟩, 16) := by unfold summedS; rw [hL, if_pos (by omega)]
          (repeat (first | (refine lwp_seq fun K hK => ?_) | (refine thenS_normal ?_; apply_assumption -exfalso -symm) | (refine thenS_exit ?_) | (refine thenS_ret ?_) | (refine inBlockS_normal ?_) | (refine inBlockS_ret ?_) | (refine inBlockS_hit rfl ?_) | (refine inBlockS_miss rfl ?_) | (refine lwp_block ?_) | (refine lwp_skip ?_) | (refine lwp_exit ?_) | (refine lwp_ret ?_) | (refine lwp_label ?_) | (refine lwp_region hC ⟨[], [], []⟩ (told0 _ _) rfl True.intro ?_) | (refine lwp_region hC ⟨[], [], []⟩ (told0 _ _) rfl (by ((try simp only [AllL, All, cd_p, cp_p, cv_p, InK, and_true, true_and]); all_goals ((repeat' (first | refine And.intro ?_ ?_ | intro _)) <;> first | omega | exact True.intro | assumption | (simp; done) | rfl | (simp_all; done) | (simp_all; omega)))) ?_)))
          rw [hT]
          (refine end_intro (by first | exact .inr rfl | exact .inl rfl) [(3, none), (4, none)] rfl ?_)
          ((try simp only [AllL, All, cd_p, cp_p, cv_p, InK, and_true, true_and]); all_goals ((repeat' (first | refine And.intro ?_ ?_ | intro _)) <;> first | omega | exact True.intro | assumption | (simp; done) | rfl | (simp_all; done) | (simp_all; omega)))
        · have hT : summedS t.first V ws before after step = madeS (t.first + before) L := by unfold summedS; rw [hL, if_neg (by omega)]
          (repeat (first | (refine lwp_seq fun K hK => ?_) | (refine thenS_normal ?_; apply_assumption -exfalso -symm) | (refine thenS_exit ?_) | (refine thenS_ret ?_) | (refine inBlockS_normal ?_) | (refine inBlockS_ret ?_) | (refine inBlockS_hit rfl ?_) | (refine inBlockS_miss rfl ?_) | (refine lwp_block ?_) | (refine lwp_skip ?_) | (refine lwp_exit ?_) | (refine lwp_ret ?_) | (refine lwp_label ?_) | (refine lwp_region hC ⟨[], [], []⟩ (told0 _ _) rfl True.intro ?_) | (refine lwp_region hC ⟨[], [], []⟩ (told0 _ _) rfl (by ((try simp only [AllL, All, cd_p, cp_p, cv_p, InK, and_true, true_and]); all_goals ((repeat' (first | refine And.intro ?_ ?_ | intro _)) <;> first | omega | exact True.intro | assumption | (simp; done) | rfl | (simp_all; done) | (simp_all; omega)))) ?_)))
          (refine lwp_region hC ⟨[], [], [(5, Made_i (t.first + before) L [(0, some 6)])]⟩ (told1 _ (by rw [hP]; exact (calls_cons (Made_s _ _ _ (by omega)) calls_nil))) rfl ?_ ?_; rotate_left 1)
          · (repeat (first | (refine lwp_seq fun K hK => ?_) | (refine thenS_normal ?_; apply_assumption -exfalso -symm) | (refine thenS_exit ?_) | (refine thenS_ret ?_) | (refine inBlockS_normal ?_) | (refine inBlockS_ret ?_) | (refine inBlockS_hit rfl ?_) | (refine inBlockS_miss rfl ?_) | (refine lwp_block ?_) | (refine lwp_skip ?_) | (refine lwp_exit ?_) | (refine lwp_ret ?_) | (refine lwp_label ?_) | (refine lwp_region hC ⟨[], [], []⟩ (told0 _ _) rfl True.intro ?_) | (refine lwp_region hC ⟨[], [], []⟩ (told0 _ _) rfl (by ((try simp only [AllL, All, cd_p, cp_p, cv_p, InK, and_true, true_and]); all_goals ((repeat' (first | refine And.intro ?_ ?_ | intro _)) <;> first | omega | exact True.intro | assumption | (simp; done) | rfl | (simp_all; done) | (simp_all; omega)))) ?_)))
            rw [hT]
            generalize madeS (t.first + before) L = T at *
            (refine end_intro (by first | exact .inr rfl | exact .inl rfl) [(3, some 7), (4, some 8)] rfl ?_)
            ((try simp only [AllL, All, cd_p, cp_p, cv_p, InK, and_true, true_and]); all_goals ((repeat' (first | refine And.intro ?_ ?_ | intro _)) <;> first | omega | exact True.intro | assumption | (simp; done) | rfl | (simp_all; done) | (simp_all; omega)))
          · clear hT
            ((try simp only [AllL, All, cd_p, cp_p, cv_p, InK, and_true, true_and]); all_goals ((repeat' (first | refine And.intro ?_ ?_ | intro _)) <;> first | omega | exact True.intro | assumption | (simp; done) | rfl | (simp_all; done) | (simp_all; omega)))
  · ((try simp only [AllL, All, cd_p, cp_p, cv_p, InK, and_true, true_and]); all_goals ((repeat' (first | refine And.intro ?_ ?_ | intro _)) <;> first | omega | exact True.intro | assumption | (simp; done) | rfl | (simp_all; done) | (simp_all; omega)))

end Go.Proofs.YtbpffadffbgloaaGreatDoor
