/- The law ChordPanels: its run. -/
import Derived.Test.YtbpffadffbgloaaGreatDoorRv
import Derived.Test.YtbpffadffbgloaaGreatDoorWd
import Derived.Laws.FloatBits
import Derived.Test.YtbpffadffbgloaaGreatDoorWm
import Derived.Test.YtbpffadffbgloaaGreatDoorYa
import Derived.Test.YtbpffadffbgloaaGreatDoorYd
set_option linter.unusedVariables false
set_option linter.unusedSimpArgs false
namespace Go.Proofs.YtbpffadffbgloaaGreatDoor
open Go.RowKit Go.Sym

theorem read_word (f : Ieee.Format) (neg : Bool) {r : Nat} (h : r < f.signWeight) : f.word neg r / f.signWeight % 2 = (if neg then 1 else 0) ∧ f.word neg r % f.signWeight = r := by
  have hs : 0 < f.signWeight := Nat.two_pow_pos _
  unfold Ieee.Format.word
  cases neg with
  | false => simp [Nat.div_eq_of_lt h, Nat.mod_eq_of_lt h]
  | true => simp [Nat.add_div_left _ hs, Nat.div_eq_of_lt h, Nat.mod_eq_of_lt h]
theorem order_word (f : Ieee.Format) (neg : Bool) {r : Nat} (h : r ≤ f.infRung) : f.order (f.word neg r) (f.word neg r) = some .eq := by
  have hr := read_word f neg (r := r) (Nat.lt_of_le_of_lt h f.infRung_lt)
  have key : ∃ d : Ieee.Datum, f.read (f.word neg r) = d ∧ d.isNaN = false := by
    refine ⟨_, rfl, ?_⟩
    unfold Ieee.Format.read
    dsimp only
    rw [hr.2]
    by_cases h1 : r < f.binade
    · rw [if_pos h1]; rfl
    · rw [if_neg h1]
      by_cases h2 : r < f.infRung
      · rw [if_pos h2]; rfl
      · rw [if_neg h2, if_pos (by omega)]; rfl
  obtain ⟨d, e, hn⟩ := key
  unfold Ieee.Format.order
  rw [e]
  cases d with
  | nan s t => simp [Ieee.Datum.isNaN] at hn
  | infinity s => simp [Ieee.Datum.order, compare, compareOfLessAndEq]
  | number s m i => simp [Ieee.Datum.order, compare, compareOfLessAndEq]
theorem fl_same (n : Int) : Op.floatEq .f64 (fl n) (fl n) = true := by
  have h : ∃ neg r, r ≤ Ieee.Format.infRung FloatKind.f64.format ∧ fl n = Ieee.Format.word FloatKind.f64.format neg r := by
    unfold fl FloatKind.nearest FloatKind.encode Ieee.Format.write Ieee.Format.nearest
    dsimp only
    by_cases hz : n.natAbs = 0
    · rw [if_pos hz]
      exact ⟨_, 0, Nat.zero_le _, rfl⟩
    · rw [if_neg hz]
      exact ⟨_, _, Nat.min_le_right _ _, rfl⟩
  obtain ⟨neg, r, h1, h2⟩ := h
  unfold Op.floatEq
  rw [h2, order_word _ _ h1]
  rfl
def Ints_i (l : List Int) (σ : Ren) : Inst := { f := 11, hin := [(0, .ro l.length 1 (.ints .i64 l))], args := [.sl 0 l.length], hout := [(1, .row 3 l.length 1 (.ints .i64 l))], ret := .sl 1 l.length, σ := σ }
theorem Ints_s (l : List Int) (σ : Ren) (h1 : l.length ≤ 1000000) : (Ints_i l σ).ok Tryz.prog := by
  unfold Ints_i Inst.ok; dsimp only; refine spec_of_body (tys := tys) 1 Tryz.func11 (by kernel_rfl) rfl tys_ok rfl (Nat.le_of_ble_eq_true rfl) (fun _ _ h => (by cases h)) fun F hP hm hC => ?_; conv => whnf
  repeat first | refine lwp_seq fun K hK => ?_ | (refine thenS_normal ?_; apply_assumption -exfalso -symm) | refine thenS_exit ?_ | refine thenS_ret ?_ | refine inBlockS_normal ?_ | refine inBlockS_ret ?_ | refine inBlockS_hit rfl ?_ | refine inBlockS_miss rfl ?_ | refine lwp_block ?_ | refine lwp_skip ?_ | refine lwp_exit ?_ | refine lwp_ret ?_ | refine lwp_label ?_ | refine lwp_region hC ⟨[], [], []⟩ (told0 _ _) rfl True.intro ?_ | refine lwp_region hC ⟨[], [], []⟩ (told0 _ _) rfl (by ((try simp only [AllL, All, cd_p, cp_p, cv_p, InK, and_true, true_and]); all_goals ((repeat' (first | refine And.intro ?_ ?_ | intro _)) <;> first | omega | exact True.intro | assumption | (simp; done) | rfl | (simp_all; done) | (simp_all; omega)))) ?_
  (refine end_intro (by first | exact .inr rfl | exact .inl rfl) [(1, some 2)] rfl ?_)
  ((try simp only [AllL, All, cd_p, cp_p, cv_p, InK, and_true, true_and]); all_goals ((repeat' (first | refine And.intro ?_ ?_ | intro _)) <;> first | omega | exact True.intro | assumption | (simp; done) | rfl | (simp_all; done) | (simp_all; omega)))
theorem RepS_len (l : List Int) (f n : Int) : (RepS l f n).1.vals.length ≤ 4096 ∧ (RepS l f n).1.holes.length = 0 := by
  rw [RepS_eq]
  split
  · exact ⟨Nat.zero_le _, rfl⟩
  · rename_i h
    have h := Decidable.not_not.1 h
    rw [firstS_eq] at h
    have hp := places_ok (h (placesS f n) (by simp))
    refine ⟨?_, rfl⟩
    simp only [repsL_len]; omega
theorem fl_zero : fl 0 = 0 := by kernel_rfl
theorem pn_self (t : Tr) (p : Int) (k : Nat) : eqCx (if panE t p = 0 then fl (fR (panL t p) k 4) else 0) (if panE t p = 0 then fl (fI (panL t p) k 4) else 0) (fl (gR t p k)) (fl (gI t p k)) = true := by
  unfold eqCx gR gI
  by_cases h : panE t p = 0
  · simp only [h, if_true, fl_same]; rfl
  · simp only [h, if_false, fl_zero]
    have := fl_same 0
    rw [fl_zero] at this
    rw [this]; rfl
theorem pn_err (t : Tr) (p : Int) (k : Nat) (h : ¬ panE t p = 0) : eqCx (if panE t p = 0 then fl (fR (panL t p) k 4) else 0) (if panE t p = 0 then fl (fI (panL t p) k 4) else 0) (fl 0) (fl 0) = true := by
  unfold eqCx
  simp only [h, if_false, fl_zero]
  have := fl_same 0
  rw [fl_zero] at this
  rw [this]; rfl
theorem panE_bad {t : Tr} {p : Int} (h : ¬ traceS t = 0) : panE t p = traceS t := by
  have e : pnH t p = traceS t := by unfold pnH; rw [firstS_two, if_neg h]
  unfold panE
  rw [e, if_pos h]
def LPanels_i (l : List Int) (t : Tr) (x y z : Int) : Inst := { f := 3, gl := powG, hin := [(0, powC), (1, .ro l.length 1 (.ints .i64 l)), (2, .ro t.vals.length 1 (.ints .i64 t.vals)), (3, .ro t.holes.length 2 (spC t.holes))], args := [.sl 1 l.length, trA 2 3 t, .agg [i64 x, i64 y, i64 z]], hout := [], ret := bl true, σ := [] }
set_option maxRecDepth 20000 in
set_option maxHeartbeats 16000000 in
theorem LPanels_s (l : List Int) (t : Tr) (x y z : Int) : (LPanels_i l t x y z).ok Tryz.prog := by
  unfold LPanels_i Inst.ok; dsimp only; refine spec_of_body (tys := tys) 4 Tryz.func3 (by kernel_rfl) rfl tys_ok rfl (Nat.le_of_ble_eq_true rfl) (fun g i h => by simp only [List.mem_cons, List.not_mem_nil, or_false, Prod.mk.injEq] at h; omega) fun F hP hm hC => ?_; conv => whnf
  repeat first | refine lwp_seq fun K hK => ?_ | (refine thenS_normal ?_; apply_assumption -exfalso -symm) | refine thenS_exit ?_ | refine thenS_ret ?_ | refine inBlockS_normal ?_ | refine inBlockS_ret ?_ | refine inBlockS_hit rfl ?_ | refine inBlockS_miss rfl ?_ | refine lwp_block ?_ | refine lwp_skip ?_ | refine lwp_exit ?_ | refine lwp_ret ?_ | refine lwp_label ?_ | refine lwp_region hC ⟨[], [], []⟩ (told0 _ _) rfl True.intro ?_
  by_cases hl : (65 : Int) < (l.length : Int)
  · (refine lwp_region hC ⟨[(3, { b := some true }), (4, { g := some false }), (5, { g := some false }), (6, { g := some false })], [], []⟩ (told0 _ _) rfl ?_ ?_; rotate_left 1)
    · repeat first | refine lwp_seq fun K hK => ?_ | (refine thenS_normal ?_; apply_assumption -exfalso -symm) | refine thenS_exit ?_ | refine thenS_ret ?_ | refine inBlockS_normal ?_ | refine inBlockS_ret ?_ | refine inBlockS_hit rfl ?_ | refine inBlockS_miss rfl ?_ | refine lwp_block ?_ | refine lwp_skip ?_ | refine lwp_exit ?_ | refine lwp_ret ?_ | refine lwp_label ?_ | refine lwp_region hC ⟨[], [], []⟩ (told0 _ _) rfl True.intro ?_
      (refine lwp_cond hC rfl (by first | exact True.intro | ((try simp only [AllL, All, cd_p, cp_p, cv_p, InK, and_true, true_and]); all_goals ((repeat' (first | refine And.intro ?_ ?_ | intro _)) <;> first | omega | exact True.intro | assumption | (simp; done) | rfl | (simp_all; done) | (simp_all; omega)))) (fun hb => ?_) (fun hb => ?_) <;> (try simp only [decide_eq_true_eq, decide_eq_false_iff_not, Bool.not_eq_true', Bool.not_eq_false', ne_eq, Decidable.not_not] at hb))
      · repeat first | refine lwp_seq fun K hK => ?_ | (refine thenS_normal ?_; apply_assumption -exfalso -symm) | refine thenS_exit ?_ | refine thenS_ret ?_ | refine inBlockS_normal ?_ | refine inBlockS_ret ?_ | refine inBlockS_hit rfl ?_ | refine inBlockS_miss rfl ?_ | refine lwp_block ?_ | refine lwp_skip ?_ | refine lwp_exit ?_ | refine lwp_ret ?_ | refine lwp_label ?_ | refine lwp_region hC ⟨[], [], []⟩ (told0 _ _) rfl True.intro ?_
        (refine lwp_region hC ⟨[], [], [(0, Awake_i [(0, some 0)])]⟩ (told1 _ (by rw [hP]; exact (calls_cons (Awake_s _) calls_nil))) rfl ?_ ?_; rotate_left 1)
        · repeat first | refine lwp_seq fun K hK => ?_ | (refine thenS_normal ?_; apply_assumption -exfalso -symm) | refine thenS_exit ?_ | refine thenS_ret ?_ | refine inBlockS_normal ?_ | refine inBlockS_ret ?_ | refine inBlockS_hit rfl ?_ | refine inBlockS_miss rfl ?_ | refine lwp_block ?_ | refine lwp_skip ?_ | refine lwp_exit ?_ | refine lwp_ret ?_ | refine lwp_label ?_ | refine lwp_region hC ⟨[], [], []⟩ (told0 _ _) rfl True.intro ?_
          (refine end_intro (by first | exact .inr rfl | exact .inl rfl) [] rfl ?_)
          ((try simp only [AllL, All, cd_p, cp_p, cv_p, InK, and_true, true_and]); all_goals ((repeat' (first | refine And.intro ?_ ?_ | intro _)) <;> first | omega | exact True.intro | assumption | (simp; done) | rfl | (simp_all; done) | (simp_all; omega)))
        · ((try simp only [AllL, All, cd_p, cp_p, cv_p, InK, and_true, true_and]); all_goals ((repeat' (first | refine And.intro ?_ ?_ | intro _)) <;> first | omega | exact True.intro | assumption | (simp; done) | rfl | (simp_all; done) | (simp_all; omega)))
      · exact absurd hb (by simp)
    · simp only [AllL, All, cd_p, cp_p, cv_p, InK]
      (repeat' (first | refine And.intro ?_ ?_ | intro _)) <;> first | exact True.intro | rfl | exact decide_eq_true hl | omega | (simp; done)
  · (refine lwp_region hC ⟨[(3, { b := some false })], [], [(5, Short_i t [(0, some 2), (1, some 3)])]⟩ (told1 _ (by rw [hP]; exact (calls_cons (Short_s _ _) calls_nil))) rfl ?_ ?_; rotate_left 1)
    · repeat first | refine lwp_seq fun K hK => ?_ | (refine thenS_normal ?_; apply_assumption -exfalso -symm) | refine thenS_exit ?_ | refine thenS_ret ?_ | refine inBlockS_normal ?_ | refine inBlockS_ret ?_ | refine inBlockS_hit rfl ?_ | refine inBlockS_miss rfl ?_ | refine lwp_block ?_ | refine lwp_skip ?_ | refine lwp_exit ?_ | refine lwp_ret ?_ | refine lwp_label ?_ | refine lwp_region hC ⟨[], [], []⟩ (told0 _ _) rfl True.intro ?_
      (refine lwp_cond hC rfl (by first | exact True.intro | ((try simp only [AllL, All, cd_p, cp_p, cv_p, InK, and_true, true_and]); all_goals ((repeat' (first | refine And.intro ?_ ?_ | intro _)) <;> first | omega | exact True.intro | assumption | (simp; done) | rfl | (simp_all; done) | (simp_all; omega)))) (fun hb => ?_) (fun hb => ?_) <;> (try simp only [decide_eq_true_eq, decide_eq_false_iff_not, Bool.not_eq_true', Bool.not_eq_false', ne_eq, Decidable.not_not] at hb))
      · repeat first | refine lwp_seq fun K hK => ?_ | (refine thenS_normal ?_; apply_assumption -exfalso -symm) | refine thenS_exit ?_ | refine thenS_ret ?_ | refine inBlockS_normal ?_ | refine inBlockS_ret ?_ | refine inBlockS_hit rfl ?_ | refine inBlockS_miss rfl ?_ | refine lwp_block ?_ | refine lwp_skip ?_ | refine lwp_exit ?_ | refine lwp_ret ?_ | refine lwp_label ?_ | refine lwp_region hC ⟨[], [], []⟩ (told0 _ _) rfl True.intro ?_
        (refine lwp_region hC ⟨[], [], [(0, Awake_i [(0, some 0)])]⟩ (told1 _ (by rw [hP]; exact (calls_cons (Awake_s _) calls_nil))) rfl ?_ ?_; rotate_left 1)
        · repeat first | refine lwp_seq fun K hK => ?_ | (refine thenS_normal ?_; apply_assumption -exfalso -symm) | refine thenS_exit ?_ | refine thenS_ret ?_ | refine inBlockS_normal ?_ | refine inBlockS_ret ?_ | refine inBlockS_hit rfl ?_ | refine inBlockS_miss rfl ?_ | refine lwp_block ?_ | refine lwp_skip ?_ | refine lwp_exit ?_ | refine lwp_ret ?_ | refine lwp_label ?_ | refine lwp_region hC ⟨[], [], []⟩ (told0 _ _) rfl True.intro ?_
          (refine end_intro (by first | exact .inr rfl | exact .inl rfl) [] rfl ?_)
          ((try simp only [AllL, All, cd_p, cp_p, cv_p, InK, and_true, true_and]); all_goals ((repeat' (first | refine And.intro ?_ ?_ | intro _)) <;> first | omega | exact True.intro | assumption | (simp; done) | rfl | (simp_all; done) | (simp_all; omega)))
        · ((try simp only [AllL, All, cd_p, cp_p, cv_p, InK, and_true, true_and]); all_goals ((repeat' (first | refine And.intro ?_ ?_ | intro _)) <;> first | omega | exact True.intro | assumption | (simp; done) | rfl | (simp_all; done) | (simp_all; omega)))
      · have hs := shortB_ok (t := t) (by simpa using hb)
        clear hb
        have lX := RepS_len l x y
        repeat first | refine lwp_seq fun K hK => ?_ | (refine thenS_normal ?_; apply_assumption -exfalso -symm) | refine thenS_exit ?_ | refine thenS_ret ?_ | refine inBlockS_normal ?_ | refine inBlockS_ret ?_ | refine inBlockS_hit rfl ?_ | refine inBlockS_miss rfl ?_ | refine lwp_block ?_ | refine lwp_skip ?_ | refine lwp_exit ?_ | refine lwp_ret ?_ | refine lwp_label ?_ | refine lwp_region hC ⟨[], [], []⟩ (told0 _ _) rfl True.intro ?_
        (refine lwp_drawn2 hC (by rw [hP]; exact mixed) ⟨[], [], [(1, Ints_i l [(0, some 1)]), (6, PRepeated_i l x y [(0, some 6)])]⟩ (told1 _ (by rw [hP]; exact (calls_cons (Ints_s _ _ (by omega)) (calls_cons (PRepeated_s _ _ _ _ (by omega)) calls_nil)))) [0, 1, 0, 4, 0, 16, 63, 127, 255, 255, 0, 1535, 4095] 11 512 rfl ?_ ?_; rotate_left 1)
        · repeat first | refine lwp_seq fun K hK => ?_ | (refine thenS_normal ?_; apply_assumption -exfalso -symm) | refine thenS_exit ?_ | refine thenS_ret ?_ | refine inBlockS_normal ?_ | refine inBlockS_ret ?_ | refine inBlockS_hit rfl ?_ | refine inBlockS_miss rfl ?_ | refine lwp_block ?_ | refine lwp_skip ?_ | refine lwp_exit ?_ | refine lwp_ret ?_ | refine lwp_label ?_ | refine lwp_region hC ⟨[], [], []⟩ (told0 _ _) rfl True.intro ?_
          (refine lwp_drawn2 hC (by rw [hP]; exact mixed) ⟨[], [], [(1, LOwn_i t [(0, some 2), (1, some 3)]), (4, PPanel_i t z [(0, some 0), (1, some 11), (2, some 12)])]⟩ (told1 _ (by rw [hP]; exact (calls_cons (LOwn_s _ _ (by omega) (by omega)) (calls_cons (PPanel_s _ _ _) calls_nil)))) [0, 1, 0, 4, 15, 31, 63, 63, 0, 383, 1023] 9 128 rfl ?_ ?_; rotate_left 1)
          · repeat first | refine lwp_seq fun K hK => ?_ | (refine thenS_normal ?_; apply_assumption -exfalso -symm) | refine thenS_exit ?_ | refine thenS_ret ?_ | refine inBlockS_normal ?_ | refine inBlockS_ret ?_ | refine inBlockS_hit rfl ?_ | refine inBlockS_miss rfl ?_ | refine lwp_block ?_ | refine lwp_skip ?_ | refine lwp_exit ?_ | refine lwp_ret ?_ | refine lwp_label ?_ | refine lwp_region hC ⟨[], [], []⟩ (told0 _ _) rfl True.intro ?_
            (refine lwp_drawn hC (by rw [hP]; exact mixed) ⟨[], [], [(1, RWave_i l [(0, some 1)]), (6, CheckPlaces_i x y), (8, LFirst_i [wavesS l, placesS x y] [(0, some 15)]), (10, RCheckTrace_i t [(0, some 2), (1, some 3)])]⟩ (told1 _ (by rw [hP]; exact (calls_cons (RWave_s _ _) (calls_cons (CheckPlaces_s _ _) (calls_cons (LFirst_s _ _ (by simp)) (calls_cons (RCheckTrace_s _ _ (by omega) (by omega)) calls_nil)))))) [0, 1, 0, 4, 0, 16, 63, 127, 255, 0, 1023, 2047, 4095] 10 rfl ?_ ?_; rotate_left 1)
            · repeat first | refine lwp_seq fun K hK => ?_ | (refine thenS_normal ?_; apply_assumption -exfalso -symm) | refine thenS_exit ?_ | refine thenS_ret ?_ | refine inBlockS_normal ?_ | refine inBlockS_ret ?_ | refine inBlockS_hit rfl ?_ | refine inBlockS_miss rfl ?_ | refine lwp_block ?_ | refine lwp_skip ?_ | refine lwp_exit ?_ | refine lwp_ret ?_ | refine lwp_label ?_ | refine lwp_region hC ⟨[], [], []⟩ (told0 _ _) rfl True.intro ?_
              by_cases hc : firstS [wavesS l, placesS x y] = 0
              · have hc2 := hc
                rw [firstS_eq] at hc2
                have hwv := wavesS_ok (hc2 (wavesS l) (by simp))
                have hpl := places_ok (hc2 (placesS x y) (by simp))
                clear hc2
                obtain ⟨N, rfl⟩ := Int.eq_ofNat_of_zero_le hpl.2.1.1
                by_cases ht : traceS t = 0
                · repeat first | refine lwp_seq fun K hK => ?_ | (refine thenS_normal ?_; apply_assumption -exfalso -symm) | refine thenS_exit ?_ | refine thenS_ret ?_ | refine inBlockS_normal ?_ | refine inBlockS_ret ?_ | refine inBlockS_hit rfl ?_ | refine inBlockS_miss rfl ?_ | refine lwp_block ?_ | refine lwp_skip ?_ | refine lwp_exit ?_ | refine lwp_ret ?_ | refine lwp_label ?_ | refine lwp_region hC ⟨[], [], []⟩ (told0 _ _) rfl True.intro ?_
                  (refine lwp_cond hC rfl (by first | exact True.intro | ((try simp only [AllL, All, cd_p, cp_p, cv_p, InK, and_true, true_and]); all_goals ((repeat' (first | refine And.intro ?_ ?_ | intro _)) <;> first | omega | exact True.intro | assumption | (simp; done) | rfl | (simp_all; done) | (simp_all; omega)))) (fun hb => ?_) (fun hb => ?_) <;> (try simp only [decide_eq_true_eq, decide_eq_false_iff_not, Bool.not_eq_true', Bool.not_eq_false', ne_eq, Decidable.not_not] at hb))
                  rotate_left 1
                  · exact absurd hc hb
                  clear hb
                  repeat first | refine lwp_seq fun K hK => ?_ | (refine thenS_normal ?_; apply_assumption -exfalso -symm) | refine thenS_exit ?_ | refine thenS_ret ?_ | refine inBlockS_normal ?_ | refine inBlockS_ret ?_ | refine inBlockS_hit rfl ?_ | refine inBlockS_miss rfl ?_ | refine lwp_block ?_ | refine lwp_skip ?_ | refine lwp_exit ?_ | refine lwp_ret ?_ | refine lwp_label ?_ | refine lwp_region hC ⟨[], [], []⟩ (told0 _ _) rfl True.intro ?_
                  (refine lwp_region hC ⟨[], [], [(5, RRepeated_i l x N [(0, some 1)])]⟩ (told1 _ (by rw [hP]; exact (calls_cons (RRepeated_s _ _ _ _ hwv.1 hwv.2.1 (by omega)) calls_nil))) rfl ?_ ?_; rotate_left 1)
                  · repeat first | refine lwp_seq fun K hK => ?_ | (refine thenS_normal ?_; apply_assumption -exfalso -symm) | refine thenS_exit ?_ | refine thenS_ret ?_ | refine inBlockS_normal ?_ | refine inBlockS_ret ?_ | refine inBlockS_hit rfl ?_ | refine inBlockS_miss rfl ?_ | refine lwp_block ?_ | refine lwp_skip ?_ | refine lwp_exit ?_ | refine lwp_ret ?_ | refine lwp_label ?_ | refine lwp_region hC ⟨[], [], []⟩ (told0 _ _) rfl True.intro ?_
                    (refine lwp_cond hC rfl (by first | exact True.intro | ((try simp only [AllL, All, cd_p, cp_p, cv_p, InK, and_true, true_and]); all_goals ((repeat' (first | refine And.intro ?_ ?_ | intro _)) <;> first | omega | exact True.intro | assumption | (simp; done) | rfl | (simp_all; done) | (simp_all; omega)))) (fun hb => ?_) (fun hb => ?_) <;> (try simp only [decide_eq_true_eq, decide_eq_false_iff_not, Bool.not_eq_true', Bool.not_eq_false', ne_eq, Decidable.not_not] at hb))
                    rotate_left 1
                    · exact absurd ht hb
                    clear hb
                    repeat first | refine lwp_seq fun K hK => ?_ | (refine thenS_normal ?_; apply_assumption -exfalso -symm) | refine thenS_exit ?_ | refine thenS_ret ?_ | refine inBlockS_normal ?_ | refine inBlockS_ret ?_ | refine inBlockS_hit rfl ?_ | refine inBlockS_miss rfl ?_ | refine lwp_block ?_ | refine lwp_skip ?_ | refine lwp_exit ?_ | refine lwp_ret ?_ | refine lwp_label ?_ | refine lwp_region hC ⟨[], [], []⟩ (told0 _ _) rfl True.intro ?_
                    (refine lwp_region hC ⟨[], [], [(3, RPanel_i t z [(0, some 2), (1, some 3)])]⟩ (told1 _ (by rw [hP]; exact (calls_cons (RPanel_s _ _ _ ht (by omega)) calls_nil))) rfl ?_ ?_; rotate_left 1)
                    · repeat first | refine lwp_seq fun K hK => ?_ | (refine thenS_normal ?_; apply_assumption -exfalso -symm) | refine thenS_exit ?_ | refine thenS_ret ?_ | refine inBlockS_normal ?_ | refine inBlockS_ret ?_ | refine inBlockS_hit rfl ?_ | refine inBlockS_miss rfl ?_ | refine lwp_block ?_ | refine lwp_skip ?_ | refine lwp_exit ?_ | refine lwp_ret ?_ | refine lwp_label ?_ | refine lwp_region hC ⟨[], [], []⟩ (told0 _ _) rfl True.intro ?_
                      have hX := RepS_eq l x (N : Int)
                      rw [if_neg (by rw [hc]; decide), Int.toNat_natCast] at hX
                      have oX : oneB (RepS l x (N : Int)).1 (RepS l x (N : Int)).2 (firstS [wavesS l, placesS x (N : Int)]) ⟨x, repsL l N, []⟩ = true := by rw [hX, hc]; exact oneB_self (fun h => absurd rfl h)
                      clear hX
                      generalize RepS l x (N : Int) = X at *
                      have oC : (eqCx (if panE t z = 0 then fl (fR (panL t z) ((0 : Nat) : Int) 4) else 0) (if panE t z = 0 then fl (fI (panL t z) ((0 : Nat) : Int) 4) else 0) (fl (gR t z 0)) (fl (gI t z 0)) && (eqCx (if panE t z = 0 then fl (fR (panL t z) ((1 : Nat) : Int) 4) else 0) (if panE t z = 0 then fl (fI (panL t z) ((1 : Nat) : Int) 4) else 0) (fl (gR t z 1)) (fl (gI t z 1)) && (eqCx (if panE t z = 0 then fl (fR (panL t z) ((2 : Nat) : Int) 4) else 0) (if panE t z = 0 then fl (fI (panL t z) ((2 : Nat) : Int) 4) else 0) (fl (gR t z 2)) (fl (gI t z 2)) && eqCx (if panE t z = 0 then fl (fR (panL t z) ((3 : Nat) : Int) 4) else 0) (if panE t z = 0 then fl (fI (panL t z) ((3 : Nat) : Int) 4) else 0) (fl (gR t z 3)) (fl (gI t z 3))))) = true := by rw [pn_self t z 0, pn_self t z 1, pn_self t z 2, pn_self t z 3]; rfl
                      have oE : decide (panE t z = panE t z) = true := decide_eq_true rfl
                      repeat first | refine lwp_seq fun K hK => ?_ | (refine thenS_normal ?_; apply_assumption -exfalso -symm) | refine thenS_exit ?_ | refine thenS_ret ?_ | refine inBlockS_normal ?_ | refine inBlockS_ret ?_ | refine inBlockS_hit rfl ?_ | refine inBlockS_miss rfl ?_ | refine lwp_block ?_ | refine lwp_skip ?_ | refine lwp_exit ?_ | refine lwp_ret ?_ | refine lwp_label ?_ | refine lwp_region hC ⟨[], [], []⟩ (told0 _ _) rfl True.intro ?_
                      (refine lwp_drawn2 hC (by rw [hP]; exact mixed) ⟨[(5, { b := some true }), (11, { b := some true }), (16, { b := some true })], [(9, custCx)], [(4, One_i X.1 X.2 (firstS [wavesS l, placesS x (N : Int)]) ⟨x, repsL l N, []⟩ [(0, some 7), (1, some 8), (2, some 18), (3, some 19)]), (8, Numbers_i (gR t z 0) (gI t z 0) (gR t z 1) (gI t z 1) (gR t z 2) (gI t z 2) (gR t z 3) (gI t z 3)), (17, Awake_i [(0, some 0)])]⟩ ⟨(fun p hp => by rcases List.mem_cons.1 hp with rfl | hp; rw [hP]; exact custCx_ok; cases hp), (by rw [hP]; exact (calls_cons (One_s _ _ _ _ _ (by omega) (by omega)) (calls_cons (Numbers_s _ _ _ _ _ _ _ _) (calls_cons (Awake_s _) calls_nil))))⟩ [0, 0, 0, 0, 15, 31, 63, 63, 191, 511, 1023, 2047, 4095, 4095, 16383, 32767, 65535, 131071, 262143, 524287] 20 0 rfl ?_ ?_; rotate_left 1)
                      · repeat first | refine lwp_seq fun K hK => ?_ | (refine thenS_normal ?_; apply_assumption -exfalso -symm) | refine thenS_exit ?_ | refine thenS_ret ?_ | refine inBlockS_normal ?_ | refine inBlockS_ret ?_ | refine inBlockS_hit rfl ?_ | refine inBlockS_miss rfl ?_ | refine lwp_block ?_ | refine lwp_skip ?_ | refine lwp_exit ?_ | refine lwp_ret ?_ | refine lwp_label ?_ | refine lwp_region hC ⟨[], [], []⟩ (told0 _ _) rfl True.intro ?_
                        (refine end_intro (by first | exact .inr rfl | exact .inl rfl) [] rfl ?_)
                        ((try simp only [AllL, All, cd_p, cp_p, cv_p, InK, and_true, true_and]); all_goals ((repeat' (first | refine And.intro ?_ ?_ | intro _)) <;> first | omega | exact True.intro | assumption | (simp; done) | rfl | (simp_all; done) | (simp_all; omega)))
                      · simp only [AllL, All, cd_p, cp_p, cv_p, InK, List.length_cons, List.length_nil]
                        (repeat' (first | refine And.intro ?_ ?_ | intro _)) <;> first | trivial | rfl | assumption | omega | (exact decide_eq_true (by assumption)) | (exact decide_eq_false (by assumption)) | (simp; done) | (exact decide_eq_true rfl) | (simp only [cond_true, cond_false, Bool.and_true, Bool.true_and, decide_true]; assumption) | (simp [*]; done)
                    · simp only [AllL, All, cd_p, cp_p, cv_p, InK, List.length_cons, List.length_nil]
                      (repeat' (first | refine And.intro ?_ ?_ | intro _)) <;> first | trivial | rfl | assumption | omega | (exact decide_eq_true (by assumption)) | (exact decide_eq_false (by assumption)) | (simp; done) | (exact decide_eq_true rfl) | (simp only [cond_true, cond_false, Bool.and_true, Bool.true_and, decide_true]; assumption) | (simp [*]; done)
                  · simp only [AllL, All, cd_p, cp_p, cv_p, InK, List.length_cons, List.length_nil]
                    (repeat' (first | refine And.intro ?_ ?_ | intro _)) <;> first | trivial | rfl | assumption | omega | (exact decide_eq_true (by assumption)) | (exact decide_eq_false (by assumption)) | (simp; done) | (exact decide_eq_true rfl) | (simp only [cond_true, cond_false, Bool.and_true, Bool.true_and, decide_true]; assumption) | (simp [*]; done)
                · repeat first | refine lwp_seq fun K hK => ?_ | (refine thenS_normal ?_; apply_assumption -exfalso -symm) | refine thenS_exit ?_ | refine thenS_ret ?_ | refine inBlockS_normal ?_ | refine inBlockS_ret ?_ | refine inBlockS_hit rfl ?_ | refine inBlockS_miss rfl ?_ | refine lwp_block ?_ | refine lwp_skip ?_ | refine lwp_exit ?_ | refine lwp_ret ?_ | refine lwp_label ?_ | refine lwp_region hC ⟨[], [], []⟩ (told0 _ _) rfl True.intro ?_
                  (refine lwp_cond hC rfl (by first | exact True.intro | ((try simp only [AllL, All, cd_p, cp_p, cv_p, InK, and_true, true_and]); all_goals ((repeat' (first | refine And.intro ?_ ?_ | intro _)) <;> first | omega | exact True.intro | assumption | (simp; done) | rfl | (simp_all; done) | (simp_all; omega)))) (fun hb => ?_) (fun hb => ?_) <;> (try simp only [decide_eq_true_eq, decide_eq_false_iff_not, Bool.not_eq_true', Bool.not_eq_false', ne_eq, Decidable.not_not] at hb))
                  rotate_left 1
                  · exact absurd hc hb
                  clear hb
                  repeat first | refine lwp_seq fun K hK => ?_ | (refine thenS_normal ?_; apply_assumption -exfalso -symm) | refine thenS_exit ?_ | refine thenS_ret ?_ | refine inBlockS_normal ?_ | refine inBlockS_ret ?_ | refine inBlockS_hit rfl ?_ | refine inBlockS_miss rfl ?_ | refine lwp_block ?_ | refine lwp_skip ?_ | refine lwp_exit ?_ | refine lwp_ret ?_ | refine lwp_label ?_ | refine lwp_region hC ⟨[], [], []⟩ (told0 _ _) rfl True.intro ?_
                  (refine lwp_region hC ⟨[], [], [(5, RRepeated_i l x N [(0, some 1)])]⟩ (told1 _ (by rw [hP]; exact (calls_cons (RRepeated_s _ _ _ _ hwv.1 hwv.2.1 (by omega)) calls_nil))) rfl ?_ ?_; rotate_left 1)
                  · repeat first | refine lwp_seq fun K hK => ?_ | (refine thenS_normal ?_; apply_assumption -exfalso -symm) | refine thenS_exit ?_ | refine thenS_ret ?_ | refine inBlockS_normal ?_ | refine inBlockS_ret ?_ | refine inBlockS_hit rfl ?_ | refine inBlockS_miss rfl ?_ | refine lwp_block ?_ | refine lwp_skip ?_ | refine lwp_exit ?_ | refine lwp_ret ?_ | refine lwp_label ?_ | refine lwp_region hC ⟨[], [], []⟩ (told0 _ _) rfl True.intro ?_
                    (refine lwp_cond hC rfl (by first | exact True.intro | ((try simp only [AllL, All, cd_p, cp_p, cv_p, InK, and_true, true_and]); all_goals ((repeat' (first | refine And.intro ?_ ?_ | intro _)) <;> first | omega | exact True.intro | assumption | (simp; done) | rfl | (simp_all; done) | (simp_all; omega)))) (fun hb => ?_) (fun hb => ?_) <;> (try simp only [decide_eq_true_eq, decide_eq_false_iff_not, Bool.not_eq_true', Bool.not_eq_false', ne_eq, Decidable.not_not] at hb))
                    · exact absurd hb ht
                    clear hb
                    have hX := RepS_eq l x (N : Int)
                    rw [if_neg (by rw [hc]; decide), Int.toNat_natCast] at hX
                    have oX : oneB (RepS l x (N : Int)).1 (RepS l x (N : Int)).2 (firstS [wavesS l, placesS x (N : Int)]) ⟨x, repsL l N, []⟩ = true := by rw [hX, hc]; exact oneB_self (fun h => absurd rfl h)
                    clear hX
                    generalize RepS l x (N : Int) = X at *
                    have hpe := panE_bad (p := z) ht
                    have hpn : ¬ panE t z = 0 := by rw [hpe]; exact ht
                    have oC : (eqCx (if panE t z = 0 then fl (fR (panL t z) ((0 : Nat) : Int) 4) else 0) (if panE t z = 0 then fl (fI (panL t z) ((0 : Nat) : Int) 4) else 0) (fl 0) (fl 0) && (eqCx (if panE t z = 0 then fl (fR (panL t z) ((1 : Nat) : Int) 4) else 0) (if panE t z = 0 then fl (fI (panL t z) ((1 : Nat) : Int) 4) else 0) (fl 0) (fl 0) && (eqCx (if panE t z = 0 then fl (fR (panL t z) ((2 : Nat) : Int) 4) else 0) (if panE t z = 0 then fl (fI (panL t z) ((2 : Nat) : Int) 4) else 0) (fl 0) (fl 0) && eqCx (if panE t z = 0 then fl (fR (panL t z) ((3 : Nat) : Int) 4) else 0) (if panE t z = 0 then fl (fI (panL t z) ((3 : Nat) : Int) 4) else 0) (fl 0) (fl 0)))) = true := by rw [pn_err t z 0 hpn, pn_err t z 1 hpn, pn_err t z 2 hpn, pn_err t z 3 hpn]; rfl
                    have oE : decide (panE t z = traceS t) = true := decide_eq_true hpe
                    repeat first | refine lwp_seq fun K hK => ?_ | (refine thenS_normal ?_; apply_assumption -exfalso -symm) | refine thenS_exit ?_ | refine thenS_ret ?_ | refine inBlockS_normal ?_ | refine inBlockS_ret ?_ | refine inBlockS_hit rfl ?_ | refine inBlockS_miss rfl ?_ | refine lwp_block ?_ | refine lwp_skip ?_ | refine lwp_exit ?_ | refine lwp_ret ?_ | refine lwp_label ?_ | refine lwp_region hC ⟨[], [], []⟩ (told0 _ _) rfl True.intro ?_
                    (refine lwp_drawn2 hC (by rw [hP]; exact mixed) ⟨[(5, { b := some true }), (11, { b := some true }), (16, { b := some true })], [(9, custCx)], [(4, One_i X.1 X.2 (firstS [wavesS l, placesS x (N : Int)]) ⟨x, repsL l N, []⟩ [(0, some 7), (1, some 8), (2, some 18), (3, some 19)]), (8, Numbers_i 0 0 0 0 0 0 0 0), (17, Awake_i [(0, some 0)])]⟩ ⟨(fun p hp => by rcases List.mem_cons.1 hp with rfl | hp; rw [hP]; exact custCx_ok; cases hp), (by rw [hP]; exact (calls_cons (One_s _ _ _ _ _ (by omega) (by omega)) (calls_cons (Numbers_s _ _ _ _ _ _ _ _) (calls_cons (Awake_s _) calls_nil))))⟩ [0, 0, 0, 0, 15, 31, 63, 63, 191, 511, 1023, 2047, 4095, 4095, 16383, 32767, 65535, 131071, 262143, 524287] 20 0 rfl ?_ ?_; rotate_left 1)
                    · repeat first | refine lwp_seq fun K hK => ?_ | (refine thenS_normal ?_; apply_assumption -exfalso -symm) | refine thenS_exit ?_ | refine thenS_ret ?_ | refine inBlockS_normal ?_ | refine inBlockS_ret ?_ | refine inBlockS_hit rfl ?_ | refine inBlockS_miss rfl ?_ | refine lwp_block ?_ | refine lwp_skip ?_ | refine lwp_exit ?_ | refine lwp_ret ?_ | refine lwp_label ?_ | refine lwp_region hC ⟨[], [], []⟩ (told0 _ _) rfl True.intro ?_
                      (refine end_intro (by first | exact .inr rfl | exact .inl rfl) [] rfl ?_)
                      ((try simp only [AllL, All, cd_p, cp_p, cv_p, InK, and_true, true_and]); all_goals ((repeat' (first | refine And.intro ?_ ?_ | intro _)) <;> first | omega | exact True.intro | assumption | (simp; done) | rfl | (simp_all; done) | (simp_all; omega)))
                    · simp only [AllL, All, cd_p, cp_p, cv_p, InK, List.length_cons, List.length_nil]
                      (repeat' (first | refine And.intro ?_ ?_ | intro _)) <;> first | trivial | rfl | assumption | omega | (exact decide_eq_true (by assumption)) | (exact decide_eq_false (by assumption)) | (simp; done) | (exact decide_eq_true rfl) | (simp only [cond_true, cond_false, Bool.and_true, Bool.true_and, decide_true]; assumption) | (simp [*]; done)
                  · simp only [AllL, All, cd_p, cp_p, cv_p, InK, List.length_cons, List.length_nil]
                    (repeat' (first | refine And.intro ?_ ?_ | intro _)) <;> first | trivial | rfl | assumption | omega | (exact decide_eq_true (by assumption)) | (exact decide_eq_false (by assumption)) | (simp; done) | (exact decide_eq_true rfl) | (simp only [cond_true, cond_false, Bool.and_true, Bool.true_and, decide_true]; assumption) | (simp [*]; done)
              · by_cases ht : traceS t = 0
                · repeat first | refine lwp_seq fun K hK => ?_ | (refine thenS_normal ?_; apply_assumption -exfalso -symm) | refine thenS_exit ?_ | refine thenS_ret ?_ | refine inBlockS_normal ?_ | refine inBlockS_ret ?_ | refine inBlockS_hit rfl ?_ | refine inBlockS_miss rfl ?_ | refine lwp_block ?_ | refine lwp_skip ?_ | refine lwp_exit ?_ | refine lwp_ret ?_ | refine lwp_label ?_ | refine lwp_region hC ⟨[], [], []⟩ (told0 _ _) rfl True.intro ?_
                  (refine lwp_cond hC rfl (by first | exact True.intro | ((try simp only [AllL, All, cd_p, cp_p, cv_p, InK, and_true, true_and]); all_goals ((repeat' (first | refine And.intro ?_ ?_ | intro _)) <;> first | omega | exact True.intro | assumption | (simp; done) | rfl | (simp_all; done) | (simp_all; omega)))) (fun hb => ?_) (fun hb => ?_) <;> (try simp only [decide_eq_true_eq, decide_eq_false_iff_not, Bool.not_eq_true', Bool.not_eq_false', ne_eq, Decidable.not_not] at hb))
                  · exact absurd hb hc
                  clear hb
                  repeat first | refine lwp_seq fun K hK => ?_ | (refine thenS_normal ?_; apply_assumption -exfalso -symm) | refine thenS_exit ?_ | refine thenS_ret ?_ | refine inBlockS_normal ?_ | refine inBlockS_ret ?_ | refine inBlockS_hit rfl ?_ | refine inBlockS_miss rfl ?_ | refine lwp_block ?_ | refine lwp_skip ?_ | refine lwp_exit ?_ | refine lwp_ret ?_ | refine lwp_label ?_ | refine lwp_region hC ⟨[], [], []⟩ (told0 _ _) rfl True.intro ?_
                  (refine lwp_cond hC rfl (by first | exact True.intro | ((try simp only [AllL, All, cd_p, cp_p, cv_p, InK, and_true, true_and]); all_goals ((repeat' (first | refine And.intro ?_ ?_ | intro _)) <;> first | omega | exact True.intro | assumption | (simp; done) | rfl | (simp_all; done) | (simp_all; omega)))) (fun hb => ?_) (fun hb => ?_) <;> (try simp only [decide_eq_true_eq, decide_eq_false_iff_not, Bool.not_eq_true', Bool.not_eq_false', ne_eq, Decidable.not_not] at hb))
                  rotate_left 1
                  · exact absurd ht hb
                  clear hb
                  repeat first | refine lwp_seq fun K hK => ?_ | (refine thenS_normal ?_; apply_assumption -exfalso -symm) | refine thenS_exit ?_ | refine thenS_ret ?_ | refine inBlockS_normal ?_ | refine inBlockS_ret ?_ | refine inBlockS_hit rfl ?_ | refine inBlockS_miss rfl ?_ | refine lwp_block ?_ | refine lwp_skip ?_ | refine lwp_exit ?_ | refine lwp_ret ?_ | refine lwp_label ?_ | refine lwp_region hC ⟨[], [], []⟩ (told0 _ _) rfl True.intro ?_
                  (refine lwp_region hC ⟨[], [], [(3, RPanel_i t z [(0, some 2), (1, some 3)])]⟩ (told1 _ (by rw [hP]; exact (calls_cons (RPanel_s _ _ _ ht (by omega)) calls_nil))) rfl ?_ ?_; rotate_left 1)
                  · repeat first | refine lwp_seq fun K hK => ?_ | (refine thenS_normal ?_; apply_assumption -exfalso -symm) | refine thenS_exit ?_ | refine thenS_ret ?_ | refine inBlockS_normal ?_ | refine inBlockS_ret ?_ | refine inBlockS_hit rfl ?_ | refine inBlockS_miss rfl ?_ | refine lwp_block ?_ | refine lwp_skip ?_ | refine lwp_exit ?_ | refine lwp_ret ?_ | refine lwp_label ?_ | refine lwp_region hC ⟨[], [], []⟩ (told0 _ _) rfl True.intro ?_
                    have hX := RepS_eq l x y
                    rw [if_pos hc] at hX
                    have oX : oneB (RepS l x y).1 (RepS l x y).2 (firstS [wavesS l, placesS x y]) ⟨0, [], []⟩ = true := by rw [hX]; exact oneB_err rfl hc
                    clear hX
                    generalize RepS l x y = X at *
                    have oC : (eqCx (if panE t z = 0 then fl (fR (panL t z) ((0 : Nat) : Int) 4) else 0) (if panE t z = 0 then fl (fI (panL t z) ((0 : Nat) : Int) 4) else 0) (fl (gR t z 0)) (fl (gI t z 0)) && (eqCx (if panE t z = 0 then fl (fR (panL t z) ((1 : Nat) : Int) 4) else 0) (if panE t z = 0 then fl (fI (panL t z) ((1 : Nat) : Int) 4) else 0) (fl (gR t z 1)) (fl (gI t z 1)) && (eqCx (if panE t z = 0 then fl (fR (panL t z) ((2 : Nat) : Int) 4) else 0) (if panE t z = 0 then fl (fI (panL t z) ((2 : Nat) : Int) 4) else 0) (fl (gR t z 2)) (fl (gI t z 2)) && eqCx (if panE t z = 0 then fl (fR (panL t z) ((3 : Nat) : Int) 4) else 0) (if panE t z = 0 then fl (fI (panL t z) ((3 : Nat) : Int) 4) else 0) (fl (gR t z 3)) (fl (gI t z 3))))) = true := by rw [pn_self t z 0, pn_self t z 1, pn_self t z 2, pn_self t z 3]; rfl
                    have oE : decide (panE t z = panE t z) = true := decide_eq_true rfl
                    repeat first | refine lwp_seq fun K hK => ?_ | (refine thenS_normal ?_; apply_assumption -exfalso -symm) | refine thenS_exit ?_ | refine thenS_ret ?_ | refine inBlockS_normal ?_ | refine inBlockS_ret ?_ | refine inBlockS_hit rfl ?_ | refine inBlockS_miss rfl ?_ | refine lwp_block ?_ | refine lwp_skip ?_ | refine lwp_exit ?_ | refine lwp_ret ?_ | refine lwp_label ?_ | refine lwp_region hC ⟨[], [], []⟩ (told0 _ _) rfl True.intro ?_
                    (refine lwp_drawn2 hC (by rw [hP]; exact mixed) ⟨[(5, { b := some true }), (11, { b := some true }), (16, { b := some true })], [(9, custCx)], [(4, One_i X.1 X.2 (firstS [wavesS l, placesS x y]) ⟨0, [], []⟩ [(0, some 7), (1, some 8), (2, none), (3, none)]), (8, Numbers_i (gR t z 0) (gI t z 0) (gR t z 1) (gI t z 1) (gR t z 2) (gI t z 2) (gR t z 3) (gI t z 3)), (17, Awake_i [(0, some 0)])]⟩ ⟨(fun p hp => by rcases List.mem_cons.1 hp with rfl | hp; rw [hP]; exact custCx_ok; cases hp), (by rw [hP]; exact (calls_cons (One_s _ _ _ _ _ (by omega) (by omega)) (calls_cons (Numbers_s _ _ _ _ _ _ _ _) (calls_cons (Awake_s _) calls_nil))))⟩ [0, 0, 0, 0, 15, 31, 63, 63, 191, 511, 1023, 2047, 4095, 4095, 16383, 32767, 65535, 131071, 262143, 524287] 20 0 rfl ?_ ?_; rotate_left 1)
                    · repeat first | refine lwp_seq fun K hK => ?_ | (refine thenS_normal ?_; apply_assumption -exfalso -symm) | refine thenS_exit ?_ | refine thenS_ret ?_ | refine inBlockS_normal ?_ | refine inBlockS_ret ?_ | refine inBlockS_hit rfl ?_ | refine inBlockS_miss rfl ?_ | refine lwp_block ?_ | refine lwp_skip ?_ | refine lwp_exit ?_ | refine lwp_ret ?_ | refine lwp_label ?_ | refine lwp_region hC ⟨[], [], []⟩ (told0 _ _) rfl True.intro ?_
                      (refine end_intro (by first | exact .inr rfl | exact .inl rfl) [] rfl ?_)
                      ((try simp only [AllL, All, cd_p, cp_p, cv_p, InK, and_true, true_and]); all_goals ((repeat' (first | refine And.intro ?_ ?_ | intro _)) <;> first | omega | exact True.intro | assumption | (simp; done) | rfl | (simp_all; done) | (simp_all; omega)))
                    · simp only [AllL, All, cd_p, cp_p, cv_p, InK, List.length_cons, List.length_nil]
                      (repeat' (first | refine And.intro ?_ ?_ | intro _)) <;> first | trivial | rfl | assumption | omega | (exact decide_eq_true (by assumption)) | (exact decide_eq_false (by assumption)) | (simp; done) | (exact decide_eq_true rfl) | (simp only [cond_true, cond_false, Bool.and_true, Bool.true_and, decide_true]; assumption) | (simp [*]; done)
                  · simp only [AllL, All, cd_p, cp_p, cv_p, InK, List.length_cons, List.length_nil]
                    (repeat' (first | refine And.intro ?_ ?_ | intro _)) <;> first | trivial | rfl | assumption | omega | (exact decide_eq_true (by assumption)) | (exact decide_eq_false (by assumption)) | (simp; done) | (exact decide_eq_true rfl) | (simp only [cond_true, cond_false, Bool.and_true, Bool.true_and, decide_true]; assumption) | (simp [*]; done)
                · repeat first | refine lwp_seq fun K hK => ?_ | (refine thenS_normal ?_; apply_assumption -exfalso -symm) | refine thenS_exit ?_ | refine thenS_ret ?_ | refine inBlockS_normal ?_ | refine inBlockS_ret ?_ | refine inBlockS_hit rfl ?_ | refine inBlockS_miss rfl ?_ | refine lwp_block ?_ | refine lwp_skip ?_ | refine lwp_exit ?_ | refine lwp_ret ?_ | refine lwp_label ?_ | refine lwp_region hC ⟨[], [], []⟩ (told0 _ _) rfl True.intro ?_
                  (refine lwp_cond hC rfl (by first | exact True.intro | ((try simp only [AllL, All, cd_p, cp_p, cv_p, InK, and_true, true_and]); all_goals ((repeat' (first | refine And.intro ?_ ?_ | intro _)) <;> first | omega | exact True.intro | assumption | (simp; done) | rfl | (simp_all; done) | (simp_all; omega)))) (fun hb => ?_) (fun hb => ?_) <;> (try simp only [decide_eq_true_eq, decide_eq_false_iff_not, Bool.not_eq_true', Bool.not_eq_false', ne_eq, Decidable.not_not] at hb))
                  · exact absurd hb hc
                  clear hb
                  repeat first | refine lwp_seq fun K hK => ?_ | (refine thenS_normal ?_; apply_assumption -exfalso -symm) | refine thenS_exit ?_ | refine thenS_ret ?_ | refine inBlockS_normal ?_ | refine inBlockS_ret ?_ | refine inBlockS_hit rfl ?_ | refine inBlockS_miss rfl ?_ | refine lwp_block ?_ | refine lwp_skip ?_ | refine lwp_exit ?_ | refine lwp_ret ?_ | refine lwp_label ?_ | refine lwp_region hC ⟨[], [], []⟩ (told0 _ _) rfl True.intro ?_
                  (refine lwp_cond hC rfl (by first | exact True.intro | ((try simp only [AllL, All, cd_p, cp_p, cv_p, InK, and_true, true_and]); all_goals ((repeat' (first | refine And.intro ?_ ?_ | intro _)) <;> first | omega | exact True.intro | assumption | (simp; done) | rfl | (simp_all; done) | (simp_all; omega)))) (fun hb => ?_) (fun hb => ?_) <;> (try simp only [decide_eq_true_eq, decide_eq_false_iff_not, Bool.not_eq_true', Bool.not_eq_false', ne_eq, Decidable.not_not] at hb))
                  · exact absurd hb ht
                  clear hb
                  have hX := RepS_eq l x y
                  rw [if_pos hc] at hX
                  have oX : oneB (RepS l x y).1 (RepS l x y).2 (firstS [wavesS l, placesS x y]) ⟨0, [], []⟩ = true := by rw [hX]; exact oneB_err rfl hc
                  clear hX
                  generalize RepS l x y = X at *
                  have hpe := panE_bad (p := z) ht
                  have hpn : ¬ panE t z = 0 := by rw [hpe]; exact ht
                  have oC : (eqCx (if panE t z = 0 then fl (fR (panL t z) ((0 : Nat) : Int) 4) else 0) (if panE t z = 0 then fl (fI (panL t z) ((0 : Nat) : Int) 4) else 0) (fl 0) (fl 0) && (eqCx (if panE t z = 0 then fl (fR (panL t z) ((1 : Nat) : Int) 4) else 0) (if panE t z = 0 then fl (fI (panL t z) ((1 : Nat) : Int) 4) else 0) (fl 0) (fl 0) && (eqCx (if panE t z = 0 then fl (fR (panL t z) ((2 : Nat) : Int) 4) else 0) (if panE t z = 0 then fl (fI (panL t z) ((2 : Nat) : Int) 4) else 0) (fl 0) (fl 0) && eqCx (if panE t z = 0 then fl (fR (panL t z) ((3 : Nat) : Int) 4) else 0) (if panE t z = 0 then fl (fI (panL t z) ((3 : Nat) : Int) 4) else 0) (fl 0) (fl 0)))) = true := by rw [pn_err t z 0 hpn, pn_err t z 1 hpn, pn_err t z 2 hpn, pn_err t z 3 hpn]; rfl
                  have oE : decide (panE t z = traceS t) = true := decide_eq_true hpe
                  repeat first | refine lwp_seq fun K hK => ?_ | (refine thenS_normal ?_; apply_assumption -exfalso -symm) | refine thenS_exit ?_ | refine thenS_ret ?_ | refine inBlockS_normal ?_ | refine inBlockS_ret ?_ | refine inBlockS_hit rfl ?_ | refine inBlockS_miss rfl ?_ | refine lwp_block ?_ | refine lwp_skip ?_ | refine lwp_exit ?_ | refine lwp_ret ?_ | refine lwp_label ?_ | refine lwp_region hC ⟨[], [], []⟩ (told0 _ _) rfl True.intro ?_
                  (refine lwp_drawn2 hC (by rw [hP]; exact mixed) ⟨[(5, { b := some true }), (11, { b := some true }), (16, { b := some true })], [(9, custCx)], [(4, One_i X.1 X.2 (firstS [wavesS l, placesS x y]) ⟨0, [], []⟩ [(0, some 7), (1, some 8), (2, none), (3, none)]), (8, Numbers_i 0 0 0 0 0 0 0 0), (17, Awake_i [(0, some 0)])]⟩ ⟨(fun p hp => by rcases List.mem_cons.1 hp with rfl | hp; rw [hP]; exact custCx_ok; cases hp), (by rw [hP]; exact (calls_cons (One_s _ _ _ _ _ (by omega) (by omega)) (calls_cons (Numbers_s _ _ _ _ _ _ _ _) (calls_cons (Awake_s _) calls_nil))))⟩ [0, 0, 0, 0, 15, 31, 63, 63, 191, 511, 1023, 2047, 4095, 4095, 16383, 32767, 65535, 131071, 262143, 524287] 20 0 rfl ?_ ?_; rotate_left 1)
                  · repeat first | refine lwp_seq fun K hK => ?_ | (refine thenS_normal ?_; apply_assumption -exfalso -symm) | refine thenS_exit ?_ | refine thenS_ret ?_ | refine inBlockS_normal ?_ | refine inBlockS_ret ?_ | refine inBlockS_hit rfl ?_ | refine inBlockS_miss rfl ?_ | refine lwp_block ?_ | refine lwp_skip ?_ | refine lwp_exit ?_ | refine lwp_ret ?_ | refine lwp_label ?_ | refine lwp_region hC ⟨[], [], []⟩ (told0 _ _) rfl True.intro ?_
                    (refine end_intro (by first | exact .inr rfl | exact .inl rfl) [] rfl ?_)
                    ((try simp only [AllL, All, cd_p, cp_p, cv_p, InK, and_true, true_and]); all_goals ((repeat' (first | refine And.intro ?_ ?_ | intro _)) <;> first | omega | exact True.intro | assumption | (simp; done) | rfl | (simp_all; done) | (simp_all; omega)))
                  · simp only [AllL, All, cd_p, cp_p, cv_p, InK, List.length_cons, List.length_nil]
                    (repeat' (first | refine And.intro ?_ ?_ | intro _)) <;> first | trivial | rfl | assumption | omega | (exact decide_eq_true (by assumption)) | (exact decide_eq_false (by assumption)) | (simp; done) | (exact decide_eq_true rfl) | (simp only [cond_true, cond_false, Bool.and_true, Bool.true_and, decide_true]; assumption) | (simp [*]; done)
            · simp only [AllL, All, cd_p, cp_p, cv_p, InK, List.length_cons, List.length_nil]
              (repeat' (first | refine And.intro ?_ ?_ | intro _)) <;> first | trivial | rfl | assumption | omega | (exact decide_eq_true (by assumption)) | (exact decide_eq_false (by assumption)) | (simp; done) | (exact decide_eq_true rfl) | (simp only [cond_true, cond_false, Bool.and_true, Bool.true_and, decide_true]; assumption) | (simp [*]; done)
          · ((try simp only [AllL, All, cd_p, cp_p, cv_p, InK, and_true, true_and]); all_goals ((repeat' (first | refine And.intro ?_ ?_ | intro _)) <;> first | omega | exact True.intro | assumption | (simp; done) | rfl | (simp_all; done) | (simp_all; omega)))
        · ((try simp only [AllL, All, cd_p, cp_p, cv_p, InK, and_true, true_and]); all_goals ((repeat' (first | refine And.intro ?_ ?_ | intro _)) <;> first | omega | exact True.intro | assumption | (simp; done) | rfl | (simp_all; done) | (simp_all; omega)))
    · simp only [AllL, All, cd_p, cp_p, cv_p, InK]
      (repeat' (first | refine And.intro ?_ ?_ | intro _)) <;> first | exact True.intro | rfl | exact decide_eq_false hl | omega | (simp; done)

end Go.Proofs.YtbpffadffbgloaaGreatDoor
